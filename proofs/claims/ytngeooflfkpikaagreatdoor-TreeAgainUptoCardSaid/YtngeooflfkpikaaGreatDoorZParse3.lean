/-
  tree: the parser: a term.
  tree: the parser: a function that is written out.
-/
import Derived.Test.YtngeooflfkpikaaGreatDoorZGo
import Derived.Test.YtngeooflfkpikaaGreatDoorZParse2
import Derived.Test.YtngeooflfkpikaaGreatDoorZRetC
namespace Go.Proofs.YtngeooflfkpikaaGreatDoor
open Go.RowKit
/-- an own slice is only read from here on -/
theorem EX_toRo {α : Type} {enc : α → List Value} {sz : Nat} {K : Cx} {Q : Exit → Act → World → Prop} {x : Exit} {ρ : Env} {G : Rd} {e : TypeId} {n c : Nat} {p : Option Addr} {xs : List α} {r : List HP} (hs : ∀ x, (enc x).length = sz) (h0 : 0 < sz)
    (hF : ∀ fp w, Own r fp w → ∀ i ∈ K.F, i ∈ fp) (h : ∀ G', Rd.grow K.w0 G G' → Row enc sz G' p c xs → EX K Q x ρ (ro K.w0 K.F G' :: r)) : EX K Q x ρ (ro K.w0 K.F G :: sl e sz p n c (xs.flatMap enc) :: r) := ⟨fun a w hf hm => by
  obtain ⟨G', g', r', h'⟩ := Holds.toRo hs h0 hm (fun fp ho => hF fp w ho)
  exact (h G' g' r').run a w hf h'⟩
theorem prs_F {b n c k d : Nat} {p : Option Addr} {fp : List Nat} (h : fp = [b]) : ∀ f (w : World), Own [prs b p n c k d] f w → ∀ i ∈ fp, i ∈ f := fun f w ho i hi => by rw [own_prs ho, ← h]; exact hi
theorem Exs.of_rep_app {G : Rd} : ∀ {b c : List Ex} {vs us : List Value}, (Exs.of b).rep G vs → (Exs.of c).rep G us → (Exs.of (b ++ c)).rep G (vs ++ us)
  | [], c, vs, us, h, k => by
    have : vs = [] := h
    subst this; exact k
  | e :: b, c, vs, us, h, k => by
    obtain ⟨v, t, rfl, h2, h3⟩ := h
    exact ⟨v, t ++ us, rfl, h2, Exs.of_rep_app h3 k⟩
theorem Exs.of_rep_one {G : Rd} {e : Ex} {v : Value} (h : e.rep G v) : (Exs.of [e]).rep G [v] := ⟨v, [], rfl, h, rfl⟩
set_option maxHeartbeats 4000000 in
set_option maxRecDepth 100000 in
theorem par_term (p : Option Addr) (c : Nat) (L : List Tok) (hL : L.length ≤ 200) (k : Nat) (hE : ∀ k', k < k' → ExAt p c L k') (b d : Nat) (G : Rd) (w : World) (fp : List Nat) (hk : k ≤ L.length) (hdk : d ≤ k) (hR : Row tokE 5 G p c L) (hO : Own [prs b p L.length c k d] fp w) (hS : Rd.sub G fp w) :
    Calls Tryz.prog 179 #[.pointer (some ⟨b, 0, none⟩)] w (PGot b p c L d (tmP d (L.drop k)) ExRep G w fp k) := by
  refine enterR (args := [_]) hS hO Tryz.func179 rfl Tryz.ntmps179 (by simp) ?_
  have hfp := own_prs hO
  clear hO hS
  obtain ⟨Z, hZ⟩ : ∃ Z, tmP d (L.drop k) = Z := ⟨_, rfl⟩
  rw [hZ]
  unfold tmP at hZ
  ((repeat' (first|refine zza ?_|refine zc9 ?_|refine zzb fun w hw => ?_|refine zzh fun _ => ?_|refine zzi fun _ _ => ?_|refine zzj (fun _ => ?_) fun _ => ?_)); (repeat' (refine CW_seq ?_; (repeat' (first|refine zza ?_|refine zc9 ?_|refine zzb fun w hw => ?_|refine zzh fun _ => ?_|refine zzi fun _ _ => ?_|refine zzj (fun _ => ?_) fun _ => ?_)))))
  refine WL_callPar (G := G) (r := []) b p c L k d (atP d (L.drop k)) ExRep (fun W fp' hW hO hS hF => par_atom p c L hL k hE b d G W fp' hk hdk hR hO hS) ?_ ?_
  case refine_2 =>
    intro y k' hy
    rw [hy] at hZ
    ((repeat' (first|refine zza ?_|refine zc9 ?_|refine zzb fun w hw => ?_|refine zzh fun _ => ?_|refine zzi fun _ _ => ?_|refine zzj (fun _ => ?_) fun _ => ?_)); (repeat' (refine CW_seq ?_; (repeat' (first|refine zza ?_|refine zc9 ?_|refine zzb fun w hw => ?_|refine zzh fun _ => ?_|refine zzi fun _ _ => ?_|refine zzj (fun _ => ?_) fun _ => ?_)))))
    exact .inr ⟨(y, k'), hZ.symm, rfl, Rd.grow_refl _ _, hw.ent zent⟩
  rintro ⟨G0, e0, k0, v0⟩ hy hk0 hk0L hr0 hg0
  dsimp only at hy hk0 hk0L hr0 hg0 ⊢
  rw [hy] at hZ
  change pkP d e0 (L.drop k0) = Z at hZ
  ((repeat' (first|refine zza ?_|refine zc9 ?_|refine zzb fun w hw => ?_|refine zzh fun _ => ?_|refine zzi fun _ _ => ?_|refine zzj (fun _ => ?_) fun _ => ?_)); (repeat' (refine CW_seq ?_; (repeat' (first|refine zza ?_|refine zc9 ?_|refine zzb fun w hw => ?_|refine zzh fun _ => ?_|refine zzi fun _ _ => ?_|refine zzj (fun _ => ?_) fun _ => ?_)))))
  refine CW_loopK [(0,_)] zcov (fun x : Rd × Ex × Nat × Value => [(3, x.2.2.2)]) (fun x => [prs b p L.length c x.2.2.1 d, ro w fp x.1]) (fun x => k < x.2.2.1 ∧ x.2.2.1 ≤ L.length ∧ x.2.1.rep x.1 x.2.2.2 ∧ pkP d x.2.1 (L.drop x.2.2.1) = Z ∧ Rd.grow w G x.1) (fun x => L.length - x.2.2.1) (G0, e0, k0, v0) ⟨hk0, hk0L, hr0, hZ, hg0⟩ zcov zent ?_
  clear hy hk0 hk0L hr0 hg0 hZ
  clear v0 k0 e0 G0
  rintro ⟨Gi, ei, ki, vi⟩ ⟨hki, hkiL, hri, hZi, hgi⟩
  dsimp only at hki hkiL hri hZi hgi ⊢
  obtain ⟨Ti, ui, rfl⟩ := Ex.rep_iface hri
  have hkind := fun W fp (hO : Own [prs b p L.length c ki d] fp W) (hS : Rd.sub Gi fp W) => par_kind b p c ki d L Gi W fp (hR.mono hgi.1) hkiL hO hS
  by_cases h7 : kindT (L.drop ki) = 7
  case neg =>
    rw [pkP_eq, if_neg h7] at hZi
    generalize kindT (L.drop ki) = q at h7 hkind
    ((repeat' (first|refine zza ?_|refine zc9 ?_|refine zzb fun w hw => ?_|refine zzh fun _ => ?_|refine zzi fun _ _ => ?_|refine zzj (fun _ => ?_) fun _ => ?_)); (repeat' (refine CW_seq ?_; (repeat' (first|refine zza ?_|refine zc9 ?_|refine zzb fun w hw => ?_|refine zzh fun _ => ?_|refine zzi fun _ _ => ?_|refine zzj (fun _ => ?_) fun _ => ?_)))))
    (apply WL_callU1 (h := prs b p L.length c ki d); (first | exact .here | exact .there .here | exact .there (.there .here) | exact .there (.there (.there .here)) | exact .there (.there (.there (.there .here))) | exact .there (.there (.there (.there (.there .here)))) | exact .there (.there (.there (.there (.there (.there .here)))))); (first | exact .here | exact .there .here | exact .there (.there .here) | exact .there (.there (.there .here)) | exact .there (.there (.there (.there .here))) | exact .there (.there (.there (.there (.there .here)))) | exact .there (.there (.there (.there (.there (.there .here)))))); rfl; rfl; rfl; (intro W fp hO hS; exact hkind W fp hO hS))
    clear hkind
    ((repeat' (first|refine zza ?_|refine zc9 ?_|refine zzb fun w hw => ?_|refine zzh fun _ => ?_|refine zzi fun _ _ => ?_|refine zzj (fun _ => ?_) fun _ => ?_)); (repeat' (refine CW_seq ?_; (repeat' (first|refine zza ?_|refine zc9 ?_|refine zzb fun w hw => ?_|refine zzh fun _ => ?_|refine zzi fun _ _ => ?_|refine zzj (fun _ => ?_) fun _ => ?_)))))
    exact .inl ⟨(Gi, ei, ki, .iface Ti ui), ⟨hZi.symm, hki, hkiL, hri⟩, rfl, hgi, hw.ent zent⟩
  rw [h7] at hkind
  rw [pkP_eq, if_pos h7, List.tail_drop] at hZi
  have hlt := lt_of_kind h7 (by decide)
  have e1 : ((ki + 1 : Nat) : Int) = (ki : Int) + 1 := by omega
  ((repeat' (first|refine zza ?_|refine zc9 ?_|refine zzb fun w hw => ?_|refine zzh fun _ => ?_|refine zzi fun _ _ => ?_|refine zzj (fun _ => ?_) fun _ => ?_)); (repeat' (refine CW_seq ?_; (repeat' (first|refine zza ?_|refine zc9 ?_|refine zzb fun w hw => ?_|refine zzh fun _ => ?_|refine zzi fun _ _ => ?_|refine zzj (fun _ => ?_) fun _ => ?_)))))
  (apply WL_callU1 (h := prs b p L.length c ki d); (first | exact .here | exact .there .here | exact .there (.there .here) | exact .there (.there (.there .here)) | exact .there (.there (.there (.there .here))) | exact .there (.there (.there (.there (.there .here)))) | exact .there (.there (.there (.there (.there (.there .here)))))); (first | exact .here | exact .there .here | exact .there (.there .here) | exact .there (.there (.there .here)) | exact .there (.there (.there (.there .here))) | exact .there (.there (.there (.there (.there .here)))) | exact .there (.there (.there (.there (.there (.there .here)))))); rfl; rfl; rfl; (intro W fp hO hS; exact hkind W fp hO hS))
  clear hkind
  ((repeat' (first|refine zza ?_|refine zc9 ?_|refine zzb fun w hw => ?_|refine zzh fun _ => ?_|refine zzi fun _ _ => ?_|refine zzj (fun _ => ?_) fun _ => ?_)); (repeat' (refine CW_seq ?_; (repeat' (first|refine zza ?_|refine zc9 ?_|refine zzb fun w hw => ?_|refine zzh fun _ => ?_|refine zzi fun _ _ => ?_|refine zzj (fun _ => ?_) fun _ => ?_)))))
  refine WL_callPar (G := Gi) (r := []) b p c L (ki + 1) d (exP d (L.drop (ki + 1))) ExRep (fun W fp' hW hO hS hF => hE (ki + 1) (by omega) b d Gi W fp' (by omega) (by omega) (hR.mono hgi.1) hO hS) ?_ ?_
  case refine_2 =>
    intro y k' hy
    rw [hy] at hZi
    ((repeat' (first|refine zza ?_|refine zc9 ?_|refine zzb fun w hw => ?_|refine zzh fun _ => ?_|refine zzi fun _ _ => ?_|refine zzj (fun _ => ?_) fun _ => ?_)); (repeat' (refine CW_seq ?_; (repeat' (first|refine zza ?_|refine zc9 ?_|refine zzb fun w hw => ?_|refine zzh fun _ => ?_|refine zzi fun _ _ => ?_|refine zzj (fun _ => ?_) fun _ => ?_)))))
    exact .inr ⟨(y, k'), hZi.symm, rfl, Rd.grow_refl _ _, hw.ent (Ent.roLe hgi.1 zpk zent)⟩
  rintro ⟨G1, e1', k1, v1⟩ hy hk1 hk1L hr1 hg1
  dsimp only at hy hk1 hk1L hr1 hg1 ⊢
  obtain ⟨T1, u1, rfl⟩ := Ex.rep_iface hr1
  rw [hy] at hZi
  obtain ⟨F, hF⟩ : ∃ F : List Ex × List Tok → Except Nat (Ex × List Tok), F = fun y => (needT 8 y.2).bind fun z => pkP d (.pick ⟨8, 0, 0, 0, y.1.length, [], []⟩ ei (Exs.of y.1)) z.2 := ⟨_, rfl⟩
  change (smP d [e1'] (L.drop k1)).bind _ = Z at hZi
  rw [← hF] at hZi
  ((repeat' (first|refine zza ?_|refine zc9 ?_|refine zzb fun w hw => ?_|refine zzh fun _ => ?_|refine zzi fun _ _ => ?_|refine zzj (fun _ => ?_) fun _ => ?_)); (repeat' (refine CW_seq ?_; (repeat' (first|refine zza ?_|refine zc9 ?_|refine zzb fun w hw => ?_|refine zzh fun _ => ?_|refine zzi fun _ _ => ?_|refine zzj (fun _ => ?_) fun _ => ?_)))))
  rename_i bb
  refine CW_ent (m' := [sl 93 1 (some ⟨bb, 0, none⟩) 1 1 [.iface T1 u1], prs b p L.length c k1 d, ro w fp G1]) (Ent.blkSl .here rfl rfl (by omega) zent) ?_
  refine CW_loopK [(0,_),(3,_)] zcov (fun x : Rd × List Ex × Nat × Nat × Option Addr × Nat × List Value => [(4, .slice x.2.2.2.2.1 x.2.2.1 x.2.2.2.2.2.1)]) (fun x => [sl 93 1 x.2.2.2.2.1 x.2.2.1 x.2.2.2.2.2.1 x.2.2.2.2.2.2, prs b p L.length c x.2.2.2.1 d, ro w fp x.1]) (fun x => ki < x.2.2.2.1 ∧ x.2.2.2.1 ≤ L.length ∧ x.2.2.1 ≤ x.2.2.2.1 ∧ x.2.2.2.2.2.2.length = x.2.2.1 ∧ (Exs.of x.2.1).rep x.1 x.2.2.2.2.2.2 ∧ (smP d x.2.1 (L.drop x.2.2.2.1)).bind F = Z ∧ Rd.grow w Gi x.1) (fun x => L.length - x.2.2.2.1) (G1, [e1'], 1, k1, some ⟨bb, 0, none⟩, 1, [.iface T1 u1]) ⟨by dsimp only; omega, hk1L, by dsimp only; omega, rfl, Exs.of_rep_one hr1, hZi, hg1⟩ zcov zent ?_
  clear hy hk1 hk1L hr1 hg1 hZi
  clear u1 T1 k1 e1' G1
  rintro ⟨Gj, es, n, kj, sp, sc, vs⟩ ⟨hkj, hkjL, hn, hvs, hrj, hZj, hgj⟩
  dsimp only at hkj hkjL hn hvs hrj hZj hgj ⊢
  have hgij := Rd.le_trans hgi.1 hgj.1
  have hkind := fun W fp (hO : Own [prs b p L.length c kj d] fp W) (hS : Rd.sub Gj fp W) => par_kind b p c kj d L Gj W fp (hR.mono hgij) hkjL hO hS
  by_cases h9 : kindT (L.drop kj) = 9
  · rw [h9] at hkind
    rw [smP_eq, if_pos h9, List.tail_drop] at hZj
    have hltj := lt_of_kind h9 (by decide)
    ((repeat' (first|refine zza ?_|refine zc9 ?_|refine zzb fun w hw => ?_|refine zzh fun _ => ?_|refine zzi fun _ _ => ?_|refine zzj (fun _ => ?_) fun _ => ?_)); (repeat' (refine CW_seq ?_; (repeat' (first|refine zza ?_|refine zc9 ?_|refine zzb fun w hw => ?_|refine zzh fun _ => ?_|refine zzi fun _ _ => ?_|refine zzj (fun _ => ?_) fun _ => ?_)))))
    (apply WL_callU1 (h := prs b p L.length c kj d); (first | exact .here | exact .there .here | exact .there (.there .here) | exact .there (.there (.there .here)) | exact .there (.there (.there (.there .here))) | exact .there (.there (.there (.there (.there .here)))) | exact .there (.there (.there (.there (.there (.there .here)))))); (first | exact .here | exact .there .here | exact .there (.there .here) | exact .there (.there (.there .here)) | exact .there (.there (.there (.there .here))) | exact .there (.there (.there (.there (.there .here)))) | exact .there (.there (.there (.there (.there (.there .here)))))); rfl; rfl; rfl; (intro W fp hO hS; exact hkind W fp hO hS))
    clear hkind
    ((repeat' (first|refine zza ?_|refine zc9 ?_|refine zzb fun w hw => ?_|refine zzh fun _ => ?_|refine zzi fun _ _ => ?_|refine zzj (fun _ => ?_) fun _ => ?_)); (repeat' (refine CW_seq ?_; (repeat' (first|refine zza ?_|refine zc9 ?_|refine zzb fun w hw => ?_|refine zzh fun _ => ?_|refine zzi fun _ _ => ?_|refine zzj (fun _ => ?_) fun _ => ?_)))))
    refine WL_callPar (G := Gj) (r := [sl 93 1 sp n sc vs]) b p c L (kj + 1) d (exP d (L.drop (kj + 1))) ExRep (fun W fp' hW hO hS hF => hE (kj + 1) (by omega) b d Gj W fp' (by omega) (by omega) (hR.mono hgij) hO hS) ?_ ?_
    case refine_2 =>
      intro y k' hy
      rw [hy] at hZj
      ((repeat' (first|refine zza ?_|refine zc9 ?_|refine zzb fun w hw => ?_|refine zzh fun _ => ?_|refine zzi fun _ _ => ?_|refine zzj (fun _ => ?_) fun _ => ?_)); (repeat' (refine CW_seq ?_; (repeat' (first|refine zza ?_|refine zc9 ?_|refine zzb fun w hw => ?_|refine zzh fun _ => ?_|refine zzi fun _ _ => ?_|refine zzj (fun _ => ?_) fun _ => ?_)))))
      exact .inr ⟨(y, k'), hZj.symm, rfl, Rd.grow_refl _ _, hw.ent (Ent.roLe hgij zpk zent)⟩
    rintro ⟨G1, e1', k1, v1⟩ hy hk1 hk1L hr1 hg1
    dsimp only at hy hk1 hk1L hr1 hg1 ⊢
    obtain ⟨T1, u1, rfl⟩ := Ex.rep_iface hr1
    rw [hy] at hZj
    change (smP d (es ++ [e1']) (L.drop k1)).bind _ = Z at hZj
    have hn200 : n ≤ 200 := by omega
    ((repeat' (first|refine zza ?_|refine zc9 ?_|refine zzb fun w hw => ?_|refine zzh fun _ => ?_|refine zzi fun _ _ => ?_|refine zzj (fun _ => ?_) fun _ => ?_)); (repeat' (refine CW_seq ?_; (repeat' (first|refine zza ?_|refine zc9 ?_|refine zzb fun w hw => ?_|refine zzh fun _ => ?_|refine zzi fun _ _ => ?_|refine zzj (fun _ => ?_) fun _ => ?_)))))
    rename_i q c2
    refine EX_loop' (G1, es ++ [e1'], n + 1, k1, q, c2, vs ++ [.iface T1 u1]) ⟨zcov, zent, by dsimp only; omega, by dsimp only; omega, hk1L, by dsimp only; omega, by simp [hvs], Exs.of_rep_app (Exs.rep_mono hg1.1 hrj) (Exs.of_rep_one (show Ex.rep G1 e1' (.iface T1 u1) from hr1)), hZj, Rd.grow_tr hgj hg1⟩
  rw [smP_eq, if_neg h9] at hZj
  generalize kindT (L.drop kj) = q at h9 hkind
  ((repeat' (first|refine zza ?_|refine zc9 ?_|refine zzb fun w hw => ?_|refine zzh fun _ => ?_|refine zzi fun _ _ => ?_|refine zzj (fun _ => ?_) fun _ => ?_)); (repeat' (refine CW_seq ?_; (repeat' (first|refine zza ?_|refine zc9 ?_|refine zzb fun w hw => ?_|refine zzh fun _ => ?_|refine zzi fun _ _ => ?_|refine zzj (fun _ => ?_) fun _ => ?_)))))
  (apply WL_callU1 (h := prs b p L.length c kj d); (first | exact .here | exact .there .here | exact .there (.there .here) | exact .there (.there (.there .here)) | exact .there (.there (.there (.there .here))) | exact .there (.there (.there (.there (.there .here)))) | exact .there (.there (.there (.there (.there (.there .here)))))); (first | exact .here | exact .there .here | exact .there (.there .here) | exact .there (.there (.there .here)) | exact .there (.there (.there (.there .here))) | exact .there (.there (.there (.there (.there .here)))) | exact .there (.there (.there (.there (.there (.there .here)))))); rfl; rfl; rfl; (intro W fp hO hS; exact hkind W fp hO hS))
  clear hkind
  ((repeat' (first|refine zza ?_|refine zc9 ?_|refine zzb fun w hw => ?_|refine zzh fun _ => ?_|refine zzi fun _ _ => ?_|refine zzj (fun _ => ?_) fun _ => ?_)); (repeat' (refine CW_seq ?_; (repeat' (first|refine zza ?_|refine zc9 ?_|refine zzb fun w hw => ?_|refine zzh fun _ => ?_|refine zzi fun _ _ => ?_|refine zzj (fun _ => ?_) fun _ => ?_)))))
  subst hF
  change (needT 8 (L.drop kj)).bind _ = Z at hZj
  by_cases h8 : kindT (L.drop kj) = 8
  case neg =>
    rw [needT_no hkjL h8] at hZj
    refine WL_callPm (m1 := [prs b p L.length c kj d]) (M := [prs b p L.length c kj d]) (G := Gj) (r := [sl 93 1 sp n sc vs]) zent rfl rfl rfl (fun W fp hO hS => par_needN b p c kj d L 8 Gj W fp (hR.mono hgij) hkjL h8 hO hS) ?_
    ((repeat' (first|refine zza ?_|refine zc9 ?_|refine zzb fun w hw => ?_|refine zzh fun _ => ?_|refine zzi fun _ _ => ?_|refine zzj (fun _ => ?_) fun _ => ?_)); (repeat' (refine CW_seq ?_; (repeat' (first|refine zza ?_|refine zc9 ?_|refine zzb fun w hw => ?_|refine zzh fun _ => ?_|refine zzi fun _ _ => ?_|refine zzj (fun _ => ?_) fun _ => ?_)))))
    exact .inr ⟨(L.length - kj, kj), hZj.symm, by rw [sub_sub' hkjL], Rd.grow_refl _ _, hw.ent (Ent.roLe hgij zpk zent)⟩
  obtain ⟨t8, ht8⟩ := get_lt (lt_of_kind h8 (by decide))
  have htq8 : t8.kind = 8 := by rw [← kind_at ht8, h8]
  have hlt8 := (List.getElem?_eq_some_iff.1 ht8).1
  rw [needT_yes ht8 htq8] at hZj
  (apply WL_callU1 (h := prs b p L.length c kj d); (first | exact .here | exact .there .here | exact .there (.there .here) | exact .there (.there (.there .here)) | exact .there (.there (.there (.there .here))) | exact .there (.there (.there (.there (.there .here)))) | exact .there (.there (.there (.there (.there (.there .here)))))); (first | exact .here | exact .there .here | exact .there (.there .here) | exact .there (.there (.there .here)) | exact .there (.there (.there (.there .here))) | exact .there (.there (.there (.there (.there .here)))) | exact .there (.there (.there (.there (.there (.there .here)))))); rfl; rfl; rfl; (intro W fp hO hS; exact par_need b p c kj d L 8 t8 Gj W fp (hR.mono hgij) ht8 htq8 hO hS))
  ((repeat' (first|refine zza ?_|refine zc9 ?_|refine zzb fun w hw => ?_|refine zzh fun _ => ?_|refine zzi fun _ _ => ?_|refine zzj (fun _ => ?_) fun _ => ?_)); (repeat' (refine CW_seq ?_; (repeat' (first|refine zza ?_|refine zc9 ?_|refine zzb fun w hw => ?_|refine zzh fun _ => ?_|refine zzi fun _ _ => ?_|refine zzj (fun _ => ?_) fun _ => ?_)))))
  refine EX_ent (m' := [ro w fp Gj, sl 93 1 sp n sc (vs.flatMap encV), prs b p L.length c (kj + 1) d]) (by rw [flat_encV]; exact zent) ?_
  refine EX_toRo (fun _ => rfl) (by decide) (prs_F hfp) fun G' g' r' => ?_
  subst hvs
  exact EX_loop' (G', .pick ⟨8, 0, 0, 0, es.length, [], []⟩ ei (Exs.of es), kj + 1, .iface 177 (.agg #[.iface Ti ui, .slice sp vs.length sc])) ⟨zcov, zent, by dsimp only; omega, by dsimp only; omega, by dsimp only; omega, ⟨sp, sc, vs, .iface Ti ui, rfl, r', Ex.rep_mono (Rd.le_trans hgj.1 g'.1) hri, Exs.rep_mono g'.1 hrj⟩, hZj, Rd.grow_tr hgi (Rd.grow_tr hgj g')⟩
end Go.Proofs.YtngeooflfkpikaaGreatDoor
namespace Go.Proofs.YtngeooflfkpikaaGreatDoor
open Go.RowKit
/-- into a deferred function that reads, and does not recover -/
theorem callsD_enterR {P : Program} {f : FuncId} {fn : Func} {c : Code} {args : List Value} {w : World} {F : List Nat} {R : Ending → World → Prop} {N : Nat} {m : List HP} {G : Rd} {u : FrameMode} (hs : Rd.sub G F w) (hm : Own m F w) (hf : P.funcs[f]? = some fn) (hb : fn.body = some c) (hN : fn.ntmps = N) (hl : args.length ≤ N)
    (h : CW P ⟨N, [], w, F⟩ (QBody P fn R) c (argEnv 0 args) (ro w F G :: m)) : CallsD P f args.toArray u w fun e u' w' => u' = u ∧ R e w' :=
  callsD_enter (m := ro w F G :: m) (F := F) hf hb hN hl ⟨[], F, rfl, ⟨by simp, fun a v e => .inr ⟨cell_lt (hs a v e).1, (hs a v e).2, (hs a v e).1⟩⟩, hm, by simp⟩ h
theorem enterDR {P : Program} {f : FuncId} {fn : Func} {c : Code} {args : List Value} {w : World} {F : List Nat} {R : Ending → World → Prop} {N : Nat} {m : List HP} {G : Rd} (hs : Rd.sub G F w) (hm : Own m F w) (hf : P.funcs[f]? = some fn) (hb : fn.body = some c) (hN : fn.ntmps = N) (hl : args.length ≤ N)
    (h : CW P ⟨N, [], w, F⟩ (QBodyD P fn R) c (argEnv 0 args) (ro w F G :: m)) : Calls P f args.toArray w R :=
  enterD (m := ro w F G :: m) (F := F) hf hb hN hl ⟨[], F, rfl, ⟨by simp, fun a v e => .inr ⟨cell_lt (hs a v e).1, (hs a v e).2, (hs a v e).1⟩⟩, hm, by simp⟩ h
/-- the box in which the parser lies for the deferred function -/
abbrev pbox (bm b : Nat) : HP := blk bm 89 #[.pointer (some ⟨b, 0, none⟩)]
set_option maxRecDepth 100000 in
theorem par_written1 (bm b : Nat) (p : Option Addr) (n c k d : Nat) (hd : d ≤ 200) (u : FrameMode) (G : Rd) (w : World) (F : List Nat) (hO : Own [pbox bm b, prs b p n c k (d + 1)] F w) (hS : Rd.sub G F w) :
    CallsD Tryz.prog 265 #[.pointer (some ⟨bm, 0, none⟩)] u w fun e u' w' => u' = u ∧ (e = .returned (.tuple #[]) ∧ Holds w F (ro w F G :: [pbox bm b, prs b p n c k d]) w') := by
  refine callsD_enterR (args := [_]) hS hO Tryz.func265 rfl Tryz.ntmps265 (by simp) ?_
  clear hO hS
  ((repeat' (first|refine zza ?_|refine zc9 ?_|refine zzb fun w hw => ?_|refine zzh fun _ => ?_|refine zzi fun _ _ => ?_|refine zzj (fun _ => ?_) fun _ => ?_)); (repeat' (refine CW_seq ?_; (repeat' (first|refine zza ?_|refine zc9 ?_|refine zzb fun w hw => ?_|refine zzh fun _ => ?_|refine zzi fun _ _ => ?_|refine zzj (fun _ => ?_) fun _ => ?_)))))
  have e : ((d + 1 : Nat) : Int) - 1 = (d : Int) := by omega
  rw [e] at hw
  exact ⟨rfl, hw.ent zent⟩
set_option maxHeartbeats 4000000 in
set_option maxRecDepth 100000 in
theorem par_written (p : Option Addr) (c : Nat) (L : List Tok) (hL : L.length ≤ 200) (k : Nat) (hE : ∀ k', k < k' → ExAt p c L k') (b d : Nat) (G : Rd) (w : World) (fp : List Nat) (hk : k ≤ L.length) (hdk : d ≤ k) (hR : Row tokE 5 G p c L) (hO : Own [prs b p L.length c k d] fp w) (hS : Rd.sub G fp w) (h14 : kindT (L.drop k) = 14) :
    Calls Tryz.prog 237 #[.pointer (some ⟨b, 0, none⟩)] w (PGot b p c L d (fnP d (L.drop k)) FnRep G w fp k) := by
  refine enterDR (args := [_]) hS hO Tryz.func237 rfl Tryz.ntmps237 (by simp) ?_
  have hfp := own_prs hO
  clear hO hS
  obtain ⟨Z, hZ⟩ : ∃ Z, fnP d (L.drop k) = Z := ⟨_, rfl⟩
  rw [hZ]
  rw [fnP_eq, h14, if_neg (by decide), if_neg (by decide), if_pos rfl, List.tail_drop] at hZ
  obtain ⟨F, hF⟩ : ∃ F : (Nat × List Ex) × List Tok → Except Nat (FunE × List Tok), F = fun x => (needT 15 x.2).bind fun y => .ok ({ aop := 6, n := x.1.1, body := x.1.2 }, y.2) := ⟨_, rfl⟩
  change (bdP (d + 1) 0 [] (L.drop (k + 1))).bind _ = Z at hZ
  rw [← hF] at hZ
  obtain ⟨t, ht⟩ := get_lt (lt_of_kind h14 (by decide))
  have htq : t.kind = 14 := by rw [← kind_at ht, h14]
  have hlt := (List.getElem?_eq_some_iff.1 ht).1
  refine CW_seq ?_
  refine CW_region ?_
  refine WL_box1 rfl rfl rfl fun bm => ?_
  ((repeat' (first|refine zza ?_|refine zc9 ?_|refine zzb fun w hw => ?_|refine zzh fun _ => ?_|refine zzi fun _ _ => ?_|refine zzj (fun _ => ?_) fun _ => ?_)); (repeat' (refine CW_seq ?_; (repeat' (first|refine zza ?_|refine zc9 ?_|refine zzb fun w hw => ?_|refine zzh fun _ => ?_|refine zzi fun _ _ => ?_|refine zzj (fun _ => ?_) fun _ => ?_)))))
  (apply WL_callU1 (h := prs b p L.length c k d); (first | exact .here | exact .there .here | exact .there (.there .here) | exact .there (.there (.there .here)) | exact .there (.there (.there (.there .here))) | exact .there (.there (.there (.there (.there .here)))) | exact .there (.there (.there (.there (.there (.there .here)))))); (first | exact .here | exact .there .here | exact .there (.there .here) | exact .there (.there (.there .here)) | exact .there (.there (.there (.there .here))) | exact .there (.there (.there (.there (.there .here)))) | exact .there (.there (.there (.there (.there (.there .here)))))); rfl; rfl; rfl; (intro W fp hO hS; exact par_need b p c k d L 14 t G W fp hR ht htq hO hS))
  ((repeat' (first|refine zza ?_|refine zc9 ?_|refine zzb fun w hw => ?_|refine zzh fun _ => ?_|refine zzi fun _ _ => ?_|refine zzj (fun _ => ?_) fun _ => ?_)); (repeat' (refine CW_seq ?_; (repeat' (first|refine zza ?_|refine zc9 ?_|refine zzb fun w hw => ?_|refine zzh fun _ => ?_|refine zzi fun _ _ => ?_|refine zzj (fun _ => ?_) fun _ => ?_)))))
  apply WL_op rfl rfl (y_makeFunc rfl)
  refine WL_defer rfl rfl rfl ?_
  ((repeat' (first|refine zza ?_|refine zc9 ?_|refine zzb fun w hw => ?_|refine zzh fun _ => ?_|refine zzi fun _ _ => ?_|refine zzj (fun _ => ?_) fun _ => ?_)); (repeat' (refine CW_seq ?_; (repeat' (first|refine zza ?_|refine zc9 ?_|refine zzb fun w hw => ?_|refine zzh fun _ => ?_|refine zzi fun _ _ => ?_|refine zzj (fun _ => ?_) fun _ => ?_)))))
  rename_i br bf
  clear htq ht
  refine CW_ent (m' := [blk bf 168 #[.int .i64 6, .int .i64 0, .int .i64 0, .int .i64 ((0 : Nat) : Int), .slice none (2 * 0) 0], sl 93 1 none (2 * 0) 0 [], prs b p L.length c (k + 1) (d + 1), ro w fp G, blk br 168 #[.int .i64 0, .int .i64 0, .int .i64 0, .int .i64 0, .slice none 0 0], pbox bm b]) (Ent.consK (k := Ent.nilown (Ent.consK (k := Ent.cons zpk (Ent.cons zpk (Ent.cons zpk Ent.nil))) zpk)) zpk) ?_
  have hpan : ∀ (ρ : Env) (m : List HP) (y k' z : Nat), Z = .error y → z = L.length - y → Ent m [ro w fp G, pbox bm b, prs b p L.length c k' (d + 1)] →
      EX (⟨49, [{ target := .fn (.func 265) #[.pointer (some ⟨bm, 0, none⟩)], args := #[] }], w, fp⟩ : Cx) (QBodyD Tryz.prog Tryz.f237 (PGot b p c L d Z FnRep G w fp k)) (.panic (wrongP (z : Nat))) ρ m := by
    intro ρ m y k' z hy hz he
    subst hz
    refine EX_panDN rfl fun a' w' hf hm => ?_
    obtain ⟨f1, h1, h2, h3, hsp⟩ := (hm.ent he).callR (m1 := [pbox bm b, prs b p L.length c k' (d + 1)]) (r := [])
    refine (par_written1 bm b p L.length c k' d (by omega) _ G w' f1 h1 h2).mono ?_
    rintro e u w2 ⟨rfl, rfl, hh⟩
    exact ⟨_, rfl, rfl, .inr ⟨(y, k'), hy, rfl, Rd.grow_refl _ _, (hsp G _ w2 (Rd.grow_refl _ _) hh).ent zent⟩⟩
  refine CW_loopK [(1,_),(2,_),(3,_)] zcov (fun _ : Nat × Nat × Rd × List Ex × Option Addr × Nat × List Value => []) (fun x => [blk bf 168 #[.int .i64 6, .int .i64 0, .int .i64 0, .int .i64 (x.1 : Int), .slice x.2.2.2.2.1 (2 * x.1) x.2.2.2.2.2.1], sl 93 1 x.2.2.2.2.1 (2 * x.1) x.2.2.2.2.2.1 x.2.2.2.2.2.2, prs b p L.length c x.2.1 (d + 1), ro w fp x.2.2.1, blk br 168 #[.int .i64 0, .int .i64 0, .int .i64 0, .int .i64 0, .slice none 0 0], pbox bm b]) (fun x => k < x.2.1 ∧ x.2.1 ≤ L.length ∧ 2 * x.1 ≤ x.2.1 ∧ x.2.2.2.2.2.2.length = 2 * x.1 ∧ (Exs.of x.2.2.2.1).rep x.2.2.1 x.2.2.2.2.2.2 ∧ (bdP (d + 1) x.1 x.2.2.2.1 (L.drop x.2.1)).bind F = Z ∧ Rd.grow w G x.2.2.1) (fun x => L.length - x.2.1) (0, k + 1, G, [], none, 0, []) ⟨by dsimp only; omega, by dsimp only; omega, by dsimp only; omega, rfl, rfl, hZ, Rd.grow_refl _ _⟩ zcov zent ?_
  clear hZ hlt
  rintro ⟨n, kj, Gj, es, sp, sc, vs⟩ ⟨hkj, hkjL, hn, hvs, hrj, hZj, hgj⟩
  dsimp only at hkj hkjL hn hvs hrj hZj hgj ⊢
  rw [bdP_eq] at hZj
  (repeat' (first|refine zza ?_|refine zzb fun w hw => ?_|refine zzh fun _ => ?_|refine zzi fun _ _ => ?_|refine zzj (fun _ => ?_) fun _ => ?_))
  refine CW_perm 6 [0, 1, 2, 3, 4, 5] [blk bf 168 #[.int .i64 6, .int .i64 0, .int .i64 0, .int .i64 (n : Int), .slice sp (2 * n) sc], blk br 168 #[.int .i64 0, .int .i64 0, .int .i64 0, .int .i64 0, .slice none 0 0], pbox bm b] [] Cov.nil (pm := [sl 93 1 sp (2 * n) sc vs, prs b p L.length c kj (d + 1), ro w fp Gj]) zent (by kernel_rfl) (by decide +kernel) (by kernel_rfl) ?_
  (refine WP_op rfl rfl rfl zyi ?_)
  (refine WP_op rfl rfl rfl zyi ?_)
  (refine WP_op rfl rfl rfl zyi ?_)
  refine WP_callPar (G := Gj) (r := [sl 93 1 sp (2 * n) sc vs, blk bf 168 #[.int .i64 6, .int .i64 0, .int .i64 0, .int .i64 (n : Int), .slice sp (2 * n) sc], blk br 168 #[.int .i64 0, .int .i64 0, .int .i64 0, .int .i64 0, .slice none 0 0], pbox bm b]) b p c L kj (d + 1) (exP (d + 1) (L.drop kj)) ExRep rfl (fun W fp' hW hO hS hF => hE kj (by omega) b (d + 1) Gj W fp' (by omega) (by omega) (hR.mono hgj.1) hO hS) (fun _ _ => ⟨[], zent⟩) ?_ ?_
  case refine_2 =>
    intro y k' hy
    rw [hy] at hZj
    ((repeat' (first|refine zza ?_|refine zc9 ?_|refine zzb fun w hw => ?_|refine zzh fun _ => ?_|refine zzi fun _ _ => ?_|refine zzj (fun _ => ?_) fun _ => ?_)); (repeat' (refine CW_seq ?_; (repeat' (first|refine zza ?_|refine zc9 ?_|refine zzb fun w hw => ?_|refine zzh fun _ => ?_|refine zzi fun _ _ => ?_|refine zzj (fun _ => ?_) fun _ => ?_)))))
    exact hpan _ _ y k' _ hZj.symm rfl (Ent.roLe hgj.1 zpk (Ent.cons zpk (Ent.cons zpk Ent.nil)))
  rintro ⟨G1, x1, k1, v1⟩ hy hk1 hk1L hr1 hg1
  dsimp only at hy hk1 hk1L hr1 hg1 ⊢
  obtain ⟨T1, u1, rfl⟩ := Ex.rep_iface hr1
  rw [hy] at hZj
  clear hy
  have hl1200 : (2 * n) ≤ 200 := by omega
  apply WP_bslice (hk := rfl) (pm := [ro w fp G1, prs b p L.length c k1 (d + 1), sl 93 1 sp (2 * n) sc vs]) (he := zent) (hso := by decide +kernel) (hx := rfl) (hl := rfl) (hc := rfl) (hs := rfl) (h0 := rfl) (hg := rfl) (hn := rfl)
  intro bb
  apply WP_append (hk := rfl) (hso := by decide +kernel) (hx := rfl) (hy := rfl) (he := rfl) (hp := .there (.there (.there .here))) (hp2 := .here) (pm := [ro w fp G1, prs b p L.length c k1 (d + 1)]) (hr := zent) (hl := rfl) (h1' := rfl) (hmax := by omega) (hmax2 := by omega) (hg := rfl) (hn := rfl)
  intro q1 c1
  refine WP_end ?_
  have hg01 := Rd.grow_tr hgj hg1
  have hkind := fun W fp (hO : Own [prs b p L.length c k1 (d + 1)] fp W) (hS : Rd.sub G1 fp W) => par_kind b p c k1 (d + 1) L G1 W fp (hR.mono hg01.1) hk1L hO hS
  change (if kindT (L.drop k1) = 16 then (exP (d + 1) (L.drop k1).tail).bind _ else _ : Except Nat ((Nat × List Ex) × List Tok)).bind F = Z at hZj
  rw [List.tail_drop] at hZj
  by_cases h16 : kindT (L.drop k1) = 16
  · rw [h16] at hkind
    rw [if_pos h16] at hZj
    have hlt := lt_of_kind h16 (by decide)
    ((repeat' (first|refine zza ?_|refine zc9 ?_|refine zzb fun w hw => ?_|refine zzh fun _ => ?_|refine zzi fun _ _ => ?_|refine zzj (fun _ => ?_) fun _ => ?_)); (repeat' (refine CW_seq ?_; (repeat' (first|refine zza ?_|refine zc9 ?_|refine zzb fun w hw => ?_|refine zzh fun _ => ?_|refine zzi fun _ _ => ?_|refine zzj (fun _ => ?_) fun _ => ?_)))))
    (apply WL_callU1 (h := prs b p L.length c k1 (d + 1)); (first | exact .here | exact .there .here | exact .there (.there .here) | exact .there (.there (.there .here)) | exact .there (.there (.there (.there .here))) | exact .there (.there (.there (.there (.there .here)))) | exact .there (.there (.there (.there (.there (.there .here)))))); (first | exact .here | exact .there .here | exact .there (.there .here) | exact .there (.there (.there .here)) | exact .there (.there (.there (.there .here))) | exact .there (.there (.there (.there (.there .here)))) | exact .there (.there (.there (.there (.there (.there .here)))))); rfl; rfl; rfl; (intro W fp hO hS; exact hkind W fp hO hS))
    clear hkind
    (repeat' (first|refine zza ?_|refine zzb fun w hw => ?_|refine zzh fun _ => ?_|refine zzi fun _ _ => ?_|refine zzj (fun _ => ?_) fun _ => ?_))
    refine CW_ent (m' := [blk bf 168 #[.int .i64 6, .int .i64 0, .int .i64 0, .int .i64 (n : Int), .slice q1 (2 * n + 1) c1], sl 93 1 q1 (2 * n + 1) c1 (vs ++ [.iface T1 u1]), prs b p L.length c (k1 + 1) (d + 1), ro w fp G1, blk br 168 #[.int .i64 0, .int .i64 0, .int .i64 0, .int .i64 0, .slice none 0 0], pbox bm b]) (Ent.consK (k := Ent.cons zpk (Ent.consK (k := zent) zpk)) zpk) ?_
    refine CW_perm 6 [0, 1, 2, 3, 4, 5] [blk bf 168 #[.int .i64 6, .int .i64 0, .int .i64 0, .int .i64 (n : Int), .slice q1 (2 * n + 1) c1], blk br 168 #[.int .i64 0, .int .i64 0, .int .i64 0, .int .i64 0, .slice none 0 0], pbox bm b] [] Cov.nil (pm := [sl 93 1 q1 (2 * n + 1) c1 (vs ++ [.iface T1 u1]), prs b p L.length c (k1 + 1) (d + 1), ro w fp G1]) zent (by kernel_rfl) (by decide +kernel) (by kernel_rfl) ?_
    (refine WP_op rfl rfl rfl zyi ?_)
    (refine WP_op rfl rfl rfl zyi ?_)
    (refine WP_op rfl rfl rfl zyi ?_)
    refine WP_callPar (G := G1) (r := [sl 93 1 q1 (2 * n + 1) c1 (vs ++ [.iface T1 u1]), blk bf 168 #[.int .i64 6, .int .i64 0, .int .i64 0, .int .i64 (n : Int), .slice q1 (2 * n + 1) c1], blk br 168 #[.int .i64 0, .int .i64 0, .int .i64 0, .int .i64 0, .slice none 0 0], pbox bm b]) b p c L (k1 + 1) (d + 1) (exP (d + 1) (L.drop (k1 + 1))) ExRep rfl (fun W fp' hW hO hS hF => hE (k1 + 1) (by omega) b (d + 1) G1 W fp' (by omega) (by omega) (hR.mono hg01.1) hO hS) (fun _ _ => ⟨[], zent⟩) ?_ ?_
    case refine_2 =>
      intro y k' hy
      rw [hy] at hZj
      ((repeat' (first|refine zza ?_|refine zc9 ?_|refine zzb fun w hw => ?_|refine zzh fun _ => ?_|refine zzi fun _ _ => ?_|refine zzj (fun _ => ?_) fun _ => ?_)); (repeat' (refine CW_seq ?_; (repeat' (first|refine zza ?_|refine zc9 ?_|refine zzb fun w hw => ?_|refine zzh fun _ => ?_|refine zzi fun _ _ => ?_|refine zzj (fun _ => ?_) fun _ => ?_)))))
      exact hpan _ _ y k' _ hZj.symm rfl (Ent.roLe hg01.1 zpk (Ent.cons zpk (Ent.cons zpk Ent.nil)))
    rintro ⟨G2, x2, k2, v2⟩ hy hk2 hk2L hr2 hg2
    dsimp only at hy hk2 hk2L hr2 hg2 ⊢
    obtain ⟨T2, u2, rfl⟩ := Ex.rep_iface hr2
    rw [hy] at hZj
    clear hy
    have hl2200 : 2 * n + 1 ≤ 201 := by omega
    apply WP_bslice (hk := rfl) (pm := [ro w fp G2, prs b p L.length c k2 (d + 1), sl 93 1 q1 (2 * n + 1) c1 (vs ++ [.iface T1 u1])]) (he := zent) (hso := by decide +kernel) (hx := rfl) (hl := rfl) (hc := rfl) (hs := rfl) (h0 := rfl) (hg := rfl) (hn := rfl)
    intro bb2
    apply WP_append (hk := rfl) (hso := by decide +kernel) (hx := rfl) (hy := rfl) (he := rfl) (hp := .there (.there (.there .here))) (hp2 := .here) (pm := [ro w fp G2, prs b p L.length c k2 (d + 1)]) (hr := zent) (hl := rfl) (h1' := rfl) (hmax := by omega) (hmax2 := by omega) (hg := rfl) (hn := rfl)
    intro q2 c2
    refine WP_end ?_
    have hg02 := Rd.grow_tr hg01 hg2
    change ((needT 17 (L.drop k2)).bind fun z => bdP (d + 1) (n + 1) (es ++ [x1, x2]) z.2).bind F = Z at hZj
    ((repeat' (first|refine zza ?_|refine zc9 ?_|refine zzb fun w hw => ?_|refine zzh fun _ => ?_|refine zzi fun _ _ => ?_|refine zzj (fun _ => ?_) fun _ => ?_)); (repeat' (refine CW_seq ?_; (repeat' (first|refine zza ?_|refine zc9 ?_|refine zzb fun w hw => ?_|refine zzh fun _ => ?_|refine zzi fun _ _ => ?_|refine zzj (fun _ => ?_) fun _ => ?_)))))
    by_cases h17 : kindT (L.drop k2) = 17
    case neg =>
      rw [needT_no hk2L h17] at hZj
      refine WL_callPm (m1 := [prs b p L.length c k2 (d + 1)]) (M := [prs b p L.length c k2 (d + 1)]) (G := G2) (r := [blk bf 168 _, pbox bm b]) zent rfl rfl rfl (fun W fp hO hS => par_needN b p c k2 (d + 1) L 17 G2 W fp (hR.mono hg02.1) hk2L h17 hO hS) ?_
      ((repeat' (first|refine zza ?_|refine zc9 ?_|refine zzb fun w hw => ?_|refine zzh fun _ => ?_|refine zzi fun _ _ => ?_|refine zzj (fun _ => ?_) fun _ => ?_)); (repeat' (refine CW_seq ?_; (repeat' (first|refine zza ?_|refine zc9 ?_|refine zzb fun w hw => ?_|refine zzh fun _ => ?_|refine zzi fun _ _ => ?_|refine zzj (fun _ => ?_) fun _ => ?_)))))
      exact hpan _ _ (L.length - k2) k2 k2 hZj.symm (by omega) (Ent.roLe hg02.1 zpk (Ent.cons zpk (Ent.cons zpk Ent.nil)))
    obtain ⟨t, ht⟩ := get_lt (lt_of_kind h17 (by decide))
    have htq : t.kind = 17 := by rw [← kind_at ht, h17]
    have hlt2 := (List.getElem?_eq_some_iff.1 ht).1
    rw [needT_yes ht htq] at hZj
    change (bdP (d + 1) (n + 1) (es ++ [x1, x2]) (L.drop (k2 + 1))).bind F = Z at hZj
    (apply WL_callU1 (h := prs b p L.length c k2 (d + 1)); (first | exact .here | exact .there .here | exact .there (.there .here) | exact .there (.there (.there .here)) | exact .there (.there (.there (.there .here))) | exact .there (.there (.there (.there (.there .here)))) | exact .there (.there (.there (.there (.there (.there .here)))))); (first | exact .here | exact .there .here | exact .there (.there .here) | exact .there (.there (.there .here)) | exact .there (.there (.there (.there .here))) | exact .there (.there (.there (.there (.there .here)))) | exact .there (.there (.there (.there (.there (.there .here)))))); rfl; rfl; rfl; (intro W fp hO hS; exact par_need b p c k2 (d + 1) L 17 t G2 W fp (hR.mono hg02.1) ht htq hO hS))
    ((repeat' (first|refine zza ?_|refine zc9 ?_|refine zzb fun w hw => ?_|refine zzh fun _ => ?_|refine zzi fun _ _ => ?_|refine zzj (fun _ => ?_) fun _ => ?_)); (repeat' (refine CW_seq ?_; (repeat' (first|refine zza ?_|refine zc9 ?_|refine zzb fun w hw => ?_|refine zzh fun _ => ?_|refine zzi fun _ _ => ?_|refine zzj (fun _ => ?_) fun _ => ?_)))))
    have e22 : 2 * n + 1 + 1 = 2 * (n + 1) := by omega
    rw [e22]
    refine EX_loop' (n + 1, k2 + 1, G2, es ++ [x1, x2], q2, c2, (vs ++ [.iface T1 u1]) ++ [.iface T2 u2]) ⟨zcov, zent, by dsimp only; omega, by dsimp only; omega, by dsimp only; omega, by dsimp only; omega, by simp [hvs]; omega, ?_, hZj, hg02⟩
    rw [show (vs ++ [Value.iface T1 u1]) ++ [Value.iface T2 u2] = vs ++ [.iface T1 u1, .iface T2 u2] by simp]
    exact Exs.of_rep_app (Exs.rep_mono (Rd.le_trans hg1.1 hg2.1) hrj) ⟨_, _, rfl, Ex.rep_mono hg2.1 hr1, Exs.of_rep_one hr2⟩
  · rw [if_neg h16] at hZj
    change F ((n, es ++ [x1]), L.drop k1) = Z at hZj
    subst hF
    change (needT 15 (L.drop k1)).bind _ = Z at hZj
    generalize hq : kindT (L.drop k1) = q at h16 hkind
    ((repeat' (first|refine zza ?_|refine zc9 ?_|refine zzb fun w hw => ?_|refine zzh fun _ => ?_|refine zzi fun _ _ => ?_|refine zzj (fun _ => ?_) fun _ => ?_)); (repeat' (refine CW_seq ?_; (repeat' (first|refine zza ?_|refine zc9 ?_|refine zzb fun w hw => ?_|refine zzh fun _ => ?_|refine zzi fun _ _ => ?_|refine zzj (fun _ => ?_) fun _ => ?_)))))
    (apply WL_callU1 (h := prs b p L.length c k1 (d + 1)); (first | exact .here | exact .there .here | exact .there (.there .here) | exact .there (.there (.there .here)) | exact .there (.there (.there (.there .here))) | exact .there (.there (.there (.there (.there .here)))) | exact .there (.there (.there (.there (.there (.there .here)))))); (first | exact .here | exact .there .here | exact .there (.there .here) | exact .there (.there (.there .here)) | exact .there (.there (.there (.there .here))) | exact .there (.there (.there (.there (.there .here)))) | exact .there (.there (.there (.there (.there (.there .here)))))); rfl; rfl; rfl; (intro W fp hO hS; exact hkind W fp hO hS))
    clear hkind
    ((repeat' (first|refine zza ?_|refine zc9 ?_|refine zzb fun w hw => ?_|refine zzh fun _ => ?_|refine zzi fun _ _ => ?_|refine zzj (fun _ => ?_) fun _ => ?_)); (repeat' (refine CW_seq ?_; (repeat' (first|refine zza ?_|refine zc9 ?_|refine zzb fun w hw => ?_|refine zzh fun _ => ?_|refine zzi fun _ _ => ?_|refine zzj (fun _ => ?_) fun _ => ?_)))))
    by_cases h15 : kindT (L.drop k1) = 15
    case neg =>
      rw [needT_no hk1L h15] at hZj
      refine WL_callPm (m1 := [prs b p L.length c k1 (d + 1)]) (M := [prs b p L.length c k1 (d + 1)]) (G := G1) (r := [blk bf 168 _, pbox bm b]) zent rfl rfl rfl (fun W fp hO hS => par_needN b p c k1 (d + 1) L 15 G1 W fp (hR.mono hg01.1) hk1L h15 hO hS) ?_
      ((repeat' (first|refine zza ?_|refine zc9 ?_|refine zzb fun w hw => ?_|refine zzh fun _ => ?_|refine zzi fun _ _ => ?_|refine zzj (fun _ => ?_) fun _ => ?_)); (repeat' (refine CW_seq ?_; (repeat' (first|refine zza ?_|refine zc9 ?_|refine zzb fun w hw => ?_|refine zzh fun _ => ?_|refine zzi fun _ _ => ?_|refine zzj (fun _ => ?_) fun _ => ?_)))))
      exact hpan _ _ (L.length - k1) k1 k1 hZj.symm (by omega) (Ent.roLe hg01.1 zpk (Ent.cons zpk (Ent.cons zpk Ent.nil)))
    obtain ⟨t, ht⟩ := get_lt (lt_of_kind h15 (by decide))
    have htq : t.kind = 15 := by rw [← kind_at ht, h15]
    have hlt2 := (List.getElem?_eq_some_iff.1 ht).1
    rw [needT_yes ht htq] at hZj
    (apply WL_callU1 (h := prs b p L.length c k1 (d + 1)); (first | exact .here | exact .there .here | exact .there (.there .here) | exact .there (.there (.there .here)) | exact .there (.there (.there (.there .here))) | exact .there (.there (.there (.there (.there .here)))) | exact .there (.there (.there (.there (.there (.there .here)))))); (first | exact .here | exact .there .here | exact .there (.there .here) | exact .there (.there (.there .here)) | exact .there (.there (.there (.there .here))) | exact .there (.there (.there (.there (.there .here)))) | exact .there (.there (.there (.there (.there (.there .here)))))); rfl; rfl; rfl; (intro W fp hO hS; exact par_need b p c k1 (d + 1) L 15 t G1 W fp (hR.mono hg01.1) ht htq hO hS))
    ((repeat' (first|refine zza ?_|refine zc9 ?_|refine zzb fun w hw => ?_|refine zzh fun _ => ?_|refine zzi fun _ _ => ?_|refine zzj (fun _ => ?_) fun _ => ?_)); (repeat' (refine CW_seq ?_; (repeat' (first|refine zza ?_|refine zc9 ?_|refine zzb fun w hw => ?_|refine zzh fun _ => ?_|refine zzi fun _ _ => ?_|refine zzj (fun _ => ?_) fun _ => ?_)))))
    refine EX_ent (m' := [ro w fp G1, sl 93 1 q1 (2 * n + 1) c1 ((vs ++ [Value.iface T1 u1]).flatMap encV), prs b p L.length c (k1 + 1) (d + 1), blk br 168 #[.int .i64 6, .int .i64 0, .int .i64 0, .int .i64 (n : Int), .slice q1 (2 * n + 1) c1], pbox bm b]) (by rw [flat_encV]; exact Ent.cons zpk (Ent.cons zpk (Ent.cons zpk (Ent.consK (k := zent) zpk)))) ?_
    refine EX_toRo (fun _ => rfl) (by decide) (fun f W ho i hi => ?_) fun G' g' r' => ?_
    · obtain ⟨f1, f2, rfl, ⟨rfl, _⟩, _⟩ := ho
      rw [hfp] at hi
      exact List.mem_append_left _ hi
    have hg03 := Rd.grow_tr hg01 g'
    refine EX_retD1 rfl fun a w' hf hm => ?_
    obtain ⟨f1, h1, h2, h3, hsp⟩ := (hm.ent (m' := ro w fp G' :: ([pbox bm b, prs b p L.length c (k1 + 1) (d + 1)] ++ [blk br 168 #[.int .i64 6, .int .i64 0, .int .i64 0, .int .i64 (n : Int), .slice q1 (2 * n + 1) c1]])) (by exact zent)).callR
    refine (par_written1 bm b p L.length c (k1 + 1) d (by omega) _ G' w' f1 h1 h2).mono ?_
    rintro e u w2 ⟨rfl, rfl, hh⟩
    have hm2 := hsp G' _ w2 (Rd.grow_refl _ _) hh
    have hlen : (vs ++ [Value.iface T1 u1]).length = 2 * n + 1 := by simp [hvs]
    refine ⟨_, rfl, rfl, .agg #[.int .i64 6, .int .i64 0, .int .i64 0, .int .i64 (n : Int), .slice q1 (2 * n + 1) c1], results_cell (ty := 168) rfl (hf.get 2 _ rfl) (rd_blk (K := ⟨0, [], w, fp⟩) (l := [.int .i64 6, .int .i64 0, .int .i64 0, .int .i64 (n : Int), .slice q1 (2 * n + 1) c1]) (.there (.there (.there .here))) rfl w2 hm2) (by rfl), ?_⟩
    exact .inl ⟨(G', { aop := 6, n := n, body := es ++ [x1] }, k1 + 1, .agg #[.int .i64 6, .int .i64 0, .int .i64 0, .int .i64 (n : Int), .slice q1 (2 * n + 1) c1]), ⟨hZj.symm, by dsimp only; omega, by dsimp only; omega, ⟨q1, c1, vs ++ [.iface T1 u1], by rw [hlen], r', Exs.of_rep_app (Exs.rep_mono (Rd.le_trans hg1.1 g'.1) hrj) (Exs.of_rep_one (Ex.rep_mono (v := .iface T1 u1) g'.1 hr1))⟩⟩, rfl, hg03, hm2.ent zent⟩
end Go.Proofs.YtngeooflfkpikaaGreatDoor
