/-
  tree: the parser: a function; an expression.
  tree: the parser: an expression; a line.
  tree: the parser: a line.
-/
import Derived.Test.YtngeooflfkpikaaGreatDoorZGo
import Derived.Test.YtngeooflfkpikaaGreatDoorZParse3
import Derived.Test.YtngeooflfkpikaaGreatDoorZPar
namespace Go.Proofs.YtngeooflfkpikaaGreatDoor
open Go.RowKit
theorem FnRep.plain {G : Rd} {aop af ag : Int} : FnRep G { aop := aop, af := af, ag := ag } (.agg #[.int .i64 aop, .int .i64 af, .int .i64 ag, .int .i64 0, .slice none 0 0]) := ⟨none, 0, [], rfl, Row.nil _ _ _, rfl⟩
set_option maxHeartbeats 8000000 in
set_option maxRecDepth 100000 in
theorem par_function (p : Option Addr) (c : Nat) (L : List Tok) (hL : L.length ≤ 200) (k : Nat) (hE : ∀ k', k < k' → ExAt p c L k') (b d : Nat) (G : Rd) (w : World) (fp : List Nat) (hk : k ≤ L.length) (hdk : d ≤ k) (hR : Row tokE 5 G p c L) (hO : Own [prs b p L.length c k d] fp w) (hS : Rd.sub G fp w) :
    Calls Tryz.prog 178 #[.pointer (some ⟨b, 0, none⟩)] w (PGot b p c L d (fnP d (L.drop k)) FnRep G w fp k) := by
  refine enterR (args := [_]) hS hO Tryz.func178 rfl Tryz.ntmps178 (by simp) ?_
  have hfp := own_prs hO
  clear hO hS
  obtain ⟨Z, hZ⟩ : ∃ Z, fnP d (L.drop k) = Z := ⟨_, rfl⟩
  have heq := hZ
  rw [fnP_eq] at heq
  rw [hZ]
  obtain ⟨q, hq⟩ : ∃ q, kindT (L.drop k) = q := ⟨_, rfl⟩
  have hkind := fun W fp (hO : Own [prs b p L.length c k d] fp W) (hS : Rd.sub G fp W) => par_kind b p c k d L G W fp hR hk hO hS
  rw [hq] at heq hkind
  ((repeat' (first|refine zza ?_|refine zc9 ?_|refine zzb fun w hw => ?_|refine zzh fun _ => ?_|refine zzi fun _ _ => ?_|refine zzj (fun _ => ?_) fun _ => ?_)); (repeat' (refine CW_seq ?_; (repeat' (first|refine zza ?_|refine zc9 ?_|refine zzb fun w hw => ?_|refine zzh fun _ => ?_|refine zzi fun _ _ => ?_|refine zzj (fun _ => ?_) fun _ => ?_)))))
  (apply WL_callU1 (h := prs b p L.length c k d); (first | exact .here | exact .there .here | exact .there (.there .here) | exact .there (.there (.there .here)) | exact .there (.there (.there (.there .here))) | exact .there (.there (.there (.there (.there .here)))) | exact .there (.there (.there (.there (.there (.there .here)))))); (first | exact .here | exact .there .here | exact .there (.there .here) | exact .there (.there (.there .here)) | exact .there (.there (.there (.there .here))) | exact .there (.there (.there (.there (.there .here)))) | exact .there (.there (.there (.there (.there (.there .here)))))); rfl; rfl; rfl; (intro W fp hO hS; exact hkind W fp hO hS))
  clear hkind
  by_cases h11 : q = 11
  · subst h11
    rw [if_pos rfl, List.tail_drop] at heq
    have hlt := lt_of_kind hq (by decide)
    ((repeat' (first|refine zza ?_|refine zc9 ?_|refine zzb fun w hw => ?_|refine zzh fun _ => ?_|refine zzi fun _ _ => ?_|refine zzj (fun _ => ?_) fun _ => ?_)); (repeat' (refine CW_seq ?_; (repeat' (first|refine zza ?_|refine zc9 ?_|refine zzb fun w hw => ?_|refine zzh fun _ => ?_|refine zzi fun _ _ => ?_|refine zzj (fun _ => ?_) fun _ => ?_)))))
    by_cases h12 : kindT (L.drop (k + 1)) = 12
    case neg =>
      rw [needT_no (by omega) h12] at heq
      refine WL_callPm (m1 := [prs b p L.length c (k + 1) d]) (M := [prs b p L.length c (k + 1) d]) (G := G) (r := [blk _ 168 _]) zent rfl rfl rfl (fun W fp hO hS => par_needN b p c (k + 1) d L 12 G W fp hR (by omega) h12 hO hS) ?_
      ((repeat' (first|refine zza ?_|refine zc9 ?_|refine zzb fun w hw => ?_|refine zzh fun _ => ?_|refine zzi fun _ _ => ?_|refine zzj (fun _ => ?_) fun _ => ?_)); (repeat' (refine CW_seq ?_; (repeat' (first|refine zza ?_|refine zc9 ?_|refine zzb fun w hw => ?_|refine zzh fun _ => ?_|refine zzi fun _ _ => ?_|refine zzj (fun _ => ?_) fun _ => ?_)))))
      exact .inr ⟨(L.length - (k + 1), k + 1), heq.symm, by rw [sub_sub' (by omega)], Rd.grow_refl _ _, hw.ent zent⟩
    obtain ⟨t, ht⟩ := get_lt (lt_of_kind h12 (by decide))
    have htq : t.kind = 12 := by rw [← kind_at ht, h12]
    have hlt2 := (List.getElem?_eq_some_iff.1 ht).1
    rw [needT_yes ht htq] at heq
    change (needT 4 (L.drop (k + 1 + 1))).bind _ = Z at heq
    (apply WL_callU1 (h := prs b p L.length c (k + 1) d); (first | exact .here | exact .there .here | exact .there (.there .here) | exact .there (.there (.there .here)) | exact .there (.there (.there (.there .here))) | exact .there (.there (.there (.there (.there .here)))) | exact .there (.there (.there (.there (.there (.there .here)))))); (first | exact .here | exact .there .here | exact .there (.there .here) | exact .there (.there (.there .here)) | exact .there (.there (.there (.there .here))) | exact .there (.there (.there (.there (.there .here)))) | exact .there (.there (.there (.there (.there (.there .here)))))); rfl; rfl; rfl; (intro W fp hO hS; exact par_need b p c (k + 1) d L 12 t G W fp hR ht htq hO hS))
    ((repeat' (first|refine zza ?_|refine zc9 ?_|refine zzb fun w hw => ?_|refine zzh fun _ => ?_|refine zzi fun _ _ => ?_|refine zzj (fun _ => ?_) fun _ => ?_)); (repeat' (refine CW_seq ?_; (repeat' (first|refine zza ?_|refine zc9 ?_|refine zzb fun w hw => ?_|refine zzh fun _ => ?_|refine zzi fun _ _ => ?_|refine zzj (fun _ => ?_) fun _ => ?_)))))
    by_cases h4 : kindT (L.drop (k + 1 + 1)) = 4
    case neg =>
      rw [needT_no (by omega) h4] at heq
      refine WL_callPm (m1 := [prs b p L.length c (k + 1 + 1) d]) (M := [prs b p L.length c (k + 1 + 1) d]) (G := G) (r := [blk _ 168 _]) zent rfl rfl rfl (fun W fp hO hS => par_needN b p c (k + 1 + 1) d L 4 G W fp hR (by omega) h4 hO hS) ?_
      ((repeat' (first|refine zza ?_|refine zc9 ?_|refine zzb fun w hw => ?_|refine zzh fun _ => ?_|refine zzi fun _ _ => ?_|refine zzj (fun _ => ?_) fun _ => ?_)); (repeat' (refine CW_seq ?_; (repeat' (first|refine zza ?_|refine zc9 ?_|refine zzb fun w hw => ?_|refine zzh fun _ => ?_|refine zzi fun _ _ => ?_|refine zzj (fun _ => ?_) fun _ => ?_)))))
      exact .inr ⟨(L.length - (k + 1 + 1), k + 1 + 1), heq.symm, by rw [sub_sub' (by omega)], Rd.grow_refl _ _, hw.ent zent⟩
    obtain ⟨t4, ht4⟩ := get_lt (lt_of_kind h4 (by decide))
    have htq4 : t4.kind = 4 := by rw [← kind_at ht4, h4]
    have hlt4 := (List.getElem?_eq_some_iff.1 ht4).1
    rw [needT_yes ht4 htq4] at heq
    have hneed := fun W fp (hO : Own [prs b p L.length c (k + 1 + 1) d] fp W) (hS : Rd.sub G fp W) => par_need b p c (k + 1 + 1) d L 4 t4 G W fp hR ht4 htq4 hO hS
    obtain ⟨kind, fn, num, text, at_⟩ := t4
    dsimp only [tokE] at hneed
    (apply WL_callU1 (h := prs b p L.length c (k + 1 + 1) d); (first | exact .here | exact .there .here | exact .there (.there .here) | exact .there (.there (.there .here)) | exact .there (.there (.there (.there .here))) | exact .there (.there (.there (.there (.there .here)))) | exact .there (.there (.there (.there (.there (.there .here)))))); (first | exact .here | exact .there .here | exact .there (.there .here) | exact .there (.there (.there .here)) | exact .there (.there (.there (.there .here))) | exact .there (.there (.there (.there (.there .here)))) | exact .there (.there (.there (.there (.there (.there .here)))))); rfl; rfl; rfl; (intro W fp hO hS; exact hneed W fp hO hS))
    clear hneed
    ((repeat' (first|refine zza ?_|refine zc9 ?_|refine zzb fun w hw => ?_|refine zzh fun _ => ?_|refine zzi fun _ _ => ?_|refine zzj (fun _ => ?_) fun _ => ?_)); (repeat' (refine CW_seq ?_; (repeat' (first|refine zza ?_|refine zc9 ?_|refine zzb fun w hw => ?_|refine zzh fun _ => ?_|refine zzi fun _ _ => ?_|refine zzj (fun _ => ?_) fun _ => ?_)))))
    exact .inl ⟨(G, { aop := 3, af := fn }, k + 1 + 1 + 1, .agg #[.int .i64 3, .int .i64 fn, .int .i64 0, .int .i64 0, .slice none 0 0]), ⟨heq.symm, by dsimp only; omega, by dsimp only; omega, FnRep.plain⟩, rfl, Rd.grow_refl _ _, hw.ent zent⟩
  by_cases h20 : q = 20
  · subst h20
    rw [if_neg (by decide), if_pos rfl, List.tail_drop] at heq
    have hlt := lt_of_kind hq (by decide)
    ((repeat' (first|refine zza ?_|refine zc9 ?_|refine zzb fun w hw => ?_|refine zzh fun _ => ?_|refine zzi fun _ _ => ?_|refine zzj (fun _ => ?_) fun _ => ?_)); (repeat' (refine CW_seq ?_; (repeat' (first|refine zza ?_|refine zc9 ?_|refine zzb fun w hw => ?_|refine zzh fun _ => ?_|refine zzi fun _ _ => ?_|refine zzj (fun _ => ?_) fun _ => ?_)))))
    exact .inl ⟨(G, { aop := 7 }, k + 1, .agg #[.int .i64 7, .int .i64 0, .int .i64 0, .int .i64 0, .slice none 0 0]), ⟨heq.symm, by dsimp only; omega, by dsimp only; omega, FnRep.plain⟩, rfl, Rd.grow_refl _ _, hw.ent zent⟩
  by_cases h14 : q = 14
  · subst h14
    ((repeat' (first|refine zza ?_|refine zc9 ?_|refine zzb fun w hw => ?_|refine zzh fun _ => ?_|refine zzi fun _ _ => ?_|refine zzj (fun _ => ?_) fun _ => ?_)); (repeat' (refine CW_seq ?_; (repeat' (first|refine zza ?_|refine zc9 ?_|refine zzb fun w hw => ?_|refine zzh fun _ => ?_|refine zzi fun _ _ => ?_|refine zzj (fun _ => ?_) fun _ => ?_)))))
    refine WL_callPar (G := G) (r := [blk _ 168 _]) b p c L k d (fnP d (L.drop k)) FnRep (fun W fp' hW hO hS hF => par_written p c L hL k hE b d G W fp' hk hdk hR hO hS hq) ?_ ?_
    case refine_2 =>
      intro y k' hy
      ((repeat' (first|refine zza ?_|refine zc9 ?_|refine zzb fun w hw => ?_|refine zzh fun _ => ?_|refine zzi fun _ _ => ?_|refine zzj (fun _ => ?_) fun _ => ?_)); (repeat' (refine CW_seq ?_; (repeat' (first|refine zza ?_|refine zc9 ?_|refine zzb fun w hw => ?_|refine zzh fun _ => ?_|refine zzi fun _ _ => ?_|refine zzj (fun _ => ?_) fun _ => ?_)))))
      exact .inr ⟨(y, k'), hZ.symm.trans hy, rfl, Rd.grow_refl _ _, hw.ent zent⟩
    rintro ⟨G1, f, k1, v1⟩ hy hk1 hk1L hr1 hg1
    dsimp only at hy hk1 hk1L hr1 hg1 ⊢
    obtain ⟨vp, vc, vvs, rfl, hrow, hrep⟩ := hr1
    ((repeat' (first|refine zza ?_|refine zc9 ?_|refine zzb fun w hw => ?_|refine zzh fun _ => ?_|refine zzi fun _ _ => ?_|refine zzj (fun _ => ?_) fun _ => ?_)); (repeat' (refine CW_seq ?_; (repeat' (first|refine zza ?_|refine zc9 ?_|refine zzb fun w hw => ?_|refine zzh fun _ => ?_|refine zzi fun _ _ => ?_|refine zzj (fun _ => ?_) fun _ => ?_)))))
    exact .inl ⟨(G1, f, k1, .agg #[.int .i64 f.aop, .int .i64 f.af, .int .i64 f.ag, .int .i64 (f.n : Int), .slice vp vvs.length vc]), ⟨hZ.symm.trans hy, hk1, hk1L, ⟨vp, vc, vvs, rfl, hrow, hrep⟩⟩, rfl, hg1, hw.ent zent⟩
  rw [if_neg h11, if_neg h20, if_neg h14] at heq
  by_cases h4 : q = 4
  case neg =>
    rw [needT_no hk (by rw [hq]; exact h4)] at heq
    ((repeat' (first|refine zza ?_|refine zc9 ?_|refine zzb fun w hw => ?_|refine zzh fun _ => ?_|refine zzi fun _ _ => ?_|refine zzj (fun _ => ?_) fun _ => ?_)); (repeat' (refine CW_seq ?_; (repeat' (first|refine zza ?_|refine zc9 ?_|refine zzb fun w hw => ?_|refine zzh fun _ => ?_|refine zzi fun _ _ => ?_|refine zzj (fun _ => ?_) fun _ => ?_)))))
    refine WL_callPm (m1 := [prs b p L.length c k d]) (M := [prs b p L.length c k d]) (G := G) (r := [blk _ 168 _]) zent rfl rfl rfl (fun W fp hO hS => par_needN b p c k d L 4 G W fp hR hk (by rw [hq]; exact h4) hO hS) ?_
    ((repeat' (first|refine zza ?_|refine zc9 ?_|refine zzb fun w hw => ?_|refine zzh fun _ => ?_|refine zzi fun _ _ => ?_|refine zzj (fun _ => ?_) fun _ => ?_)); (repeat' (refine CW_seq ?_; (repeat' (first|refine zza ?_|refine zc9 ?_|refine zzb fun w hw => ?_|refine zzh fun _ => ?_|refine zzi fun _ _ => ?_|refine zzj (fun _ => ?_) fun _ => ?_)))))
    exact .inr ⟨(L.length - k, k), heq.symm, by rw [sub_sub' hk], Rd.grow_refl _ _, hw.ent zent⟩
  subst h4
  clear h11 h20 h14
  obtain ⟨t, ht⟩ := get_lt (lt_of_kind hq (by decide))
  have htq : t.kind = 4 := by rw [← kind_at ht, hq]
  have hlt := (List.getElem?_eq_some_iff.1 ht).1
  rw [needT_yes ht htq] at heq
  have hneed := fun W fp (hO : Own [prs b p L.length c k d] fp W) (hS : Rd.sub G fp W) => par_need b p c k d L 4 t G W fp hR ht htq hO hS
  obtain ⟨kind, fn, num, text, at_⟩ := t
  dsimp only [tokE] at hneed
  ((repeat' (first|refine zza ?_|refine zc9 ?_|refine zzb fun w hw => ?_|refine zzh fun _ => ?_|refine zzi fun _ _ => ?_|refine zzj (fun _ => ?_) fun _ => ?_)); (repeat' (refine CW_seq ?_; (repeat' (first|refine zza ?_|refine zc9 ?_|refine zzb fun w hw => ?_|refine zzh fun _ => ?_|refine zzi fun _ _ => ?_|refine zzj (fun _ => ?_) fun _ => ?_)))))
  (apply WL_callU1 (h := prs b p L.length c k d); (first | exact .here | exact .there .here | exact .there (.there .here) | exact .there (.there (.there .here)) | exact .there (.there (.there (.there .here))) | exact .there (.there (.there (.there (.there .here)))) | exact .there (.there (.there (.there (.there (.there .here)))))); (first | exact .here | exact .there .here | exact .there (.there .here) | exact .there (.there (.there .here)) | exact .there (.there (.there (.there .here))) | exact .there (.there (.there (.there (.there .here)))) | exact .there (.there (.there (.there (.there (.there .here)))))); rfl; rfl; rfl; (intro W fp hO hS; exact hneed W fp hO hS))
  clear hneed
  ((repeat' (first|refine zza ?_|refine zc9 ?_|refine zzb fun w hw => ?_|refine zzh fun _ => ?_|refine zzi fun _ _ => ?_|refine zzj (fun _ => ?_) fun _ => ?_)); (repeat' (refine CW_seq ?_; (repeat' (first|refine zza ?_|refine zc9 ?_|refine zzb fun w hw => ?_|refine zzh fun _ => ?_|refine zzi fun _ _ => ?_|refine zzj (fun _ => ?_) fun _ => ?_)))))
  obtain ⟨q2, hq2⟩ : ∃ q, kindT (L.drop (k + 1)) = q := ⟨_, rfl⟩
  have hkind := fun W fp (hO : Own [prs b p L.length c (k + 1) d] fp W) (hS : Rd.sub G fp W) => par_kind b p c (k + 1) d L G W fp hR (by omega) hO hS
  rw [hq2] at hkind
  change (if kindT (L.drop (k + 1)) = 13 then _ else if kindT (L.drop (k + 1)) = 12 then (needT 4 (L.drop (k + 1)).tail).bind _ else _) = Z at heq
  rw [hq2, List.tail_drop] at heq
  (apply WL_callU1 (h := prs b p L.length c (k + 1) d); (first | exact .here | exact .there .here | exact .there (.there .here) | exact .there (.there (.there .here)) | exact .there (.there (.there (.there .here))) | exact .there (.there (.there (.there (.there .here)))) | exact .there (.there (.there (.there (.there (.there .here)))))); (first | exact .here | exact .there .here | exact .there (.there .here) | exact .there (.there (.there .here)) | exact .there (.there (.there (.there .here))) | exact .there (.there (.there (.there (.there .here)))) | exact .there (.there (.there (.there (.there (.there .here)))))); rfl; rfl; rfl; (intro W fp hO hS; exact hkind W fp hO hS))
  clear hkind
  by_cases h13 : q2 = 13
  · subst h13
    rw [if_pos rfl] at heq
    have hlt2 := lt_of_kind hq2 (by decide)
    ((repeat' (first|refine zza ?_|refine zc9 ?_|refine zzb fun w hw => ?_|refine zzh fun _ => ?_|refine zzi fun _ _ => ?_|refine zzj (fun _ => ?_) fun _ => ?_)); (repeat' (refine CW_seq ?_; (repeat' (first|refine zza ?_|refine zc9 ?_|refine zzb fun w hw => ?_|refine zzh fun _ => ?_|refine zzi fun _ _ => ?_|refine zzj (fun _ => ?_) fun _ => ?_)))))
    exact .inl ⟨(G, { aop := 5, af := fn }, k + 1 + 1, .agg #[.int .i64 5, .int .i64 fn, .int .i64 0, .int .i64 0, .slice none 0 0]), ⟨heq.symm, by dsimp only; omega, by dsimp only; omega, FnRep.plain⟩, rfl, Rd.grow_refl _ _, hw.ent zent⟩
  by_cases h12 : q2 = 12
  · subst h12
    rw [if_neg (by decide), if_pos rfl] at heq
    have hlt2 := lt_of_kind hq2 (by decide)
    ((repeat' (first|refine zza ?_|refine zc9 ?_|refine zzb fun w hw => ?_|refine zzh fun _ => ?_|refine zzi fun _ _ => ?_|refine zzj (fun _ => ?_) fun _ => ?_)); (repeat' (refine CW_seq ?_; (repeat' (first|refine zza ?_|refine zc9 ?_|refine zzb fun w hw => ?_|refine zzh fun _ => ?_|refine zzi fun _ _ => ?_|refine zzj (fun _ => ?_) fun _ => ?_)))))
    by_cases h4 : kindT (L.drop (k + 1 + 1)) = 4
    case neg =>
      rw [needT_no (by omega) h4] at heq
      refine WL_callPm (m1 := [prs b p L.length c (k + 1 + 1) d]) (M := [prs b p L.length c (k + 1 + 1) d]) (G := G) (r := [blk _ 168 _, blk _ 41 _]) zent rfl rfl rfl (fun W fp hO hS => par_needN b p c (k + 1 + 1) d L 4 G W fp hR (by omega) h4 hO hS) ?_
      ((repeat' (first|refine zza ?_|refine zc9 ?_|refine zzb fun w hw => ?_|refine zzh fun _ => ?_|refine zzi fun _ _ => ?_|refine zzj (fun _ => ?_) fun _ => ?_)); (repeat' (refine CW_seq ?_; (repeat' (first|refine zza ?_|refine zc9 ?_|refine zzb fun w hw => ?_|refine zzh fun _ => ?_|refine zzi fun _ _ => ?_|refine zzj (fun _ => ?_) fun _ => ?_)))))
      exact .inr ⟨(L.length - (k + 1 + 1), k + 1 + 1), heq.symm, by rw [sub_sub' (by omega)], Rd.grow_refl _ _, hw.ent zent⟩
    obtain ⟨t4, ht4⟩ := get_lt (lt_of_kind h4 (by decide))
    have htq4 : t4.kind = 4 := by rw [← kind_at ht4, h4]
    have hlt4 := (List.getElem?_eq_some_iff.1 ht4).1
    rw [needT_yes ht4 htq4] at heq
    have hneed := fun W fp (hO : Own [prs b p L.length c (k + 1 + 1) d] fp W) (hS : Rd.sub G fp W) => par_need b p c (k + 1 + 1) d L 4 t4 G W fp hR ht4 htq4 hO hS
    obtain ⟨kind4, fn4, num4, text4, at4⟩ := t4
    dsimp only [tokE] at hneed
    (apply WL_callU1 (h := prs b p L.length c (k + 1 + 1) d); (first | exact .here | exact .there .here | exact .there (.there .here) | exact .there (.there (.there .here)) | exact .there (.there (.there (.there .here))) | exact .there (.there (.there (.there (.there .here)))) | exact .there (.there (.there (.there (.there (.there .here)))))); (first | exact .here | exact .there .here | exact .there (.there .here) | exact .there (.there (.there .here)) | exact .there (.there (.there (.there .here))) | exact .there (.there (.there (.there (.there .here)))) | exact .there (.there (.there (.there (.there (.there .here)))))); rfl; rfl; rfl; (intro W fp hO hS; exact hneed W fp hO hS))
    clear hneed
    ((repeat' (first|refine zza ?_|refine zc9 ?_|refine zzb fun w hw => ?_|refine zzh fun _ => ?_|refine zzi fun _ _ => ?_|refine zzj (fun _ => ?_) fun _ => ?_)); (repeat' (refine CW_seq ?_; (repeat' (first|refine zza ?_|refine zc9 ?_|refine zzb fun w hw => ?_|refine zzh fun _ => ?_|refine zzi fun _ _ => ?_|refine zzj (fun _ => ?_) fun _ => ?_)))))
    exact .inl ⟨(G, { aop := 4, af := fn, ag := fn4 }, k + 1 + 1 + 1, .agg #[.int .i64 4, .int .i64 fn, .int .i64 fn4, .int .i64 0, .slice none 0 0]), ⟨heq.symm, by dsimp only; omega, by dsimp only; omega, FnRep.plain⟩, rfl, Rd.grow_refl _ _, hw.ent zent⟩
  rw [if_neg h13, if_neg h12] at heq
  by_cases h4 : q2 = 4
  case neg =>
    rw [if_neg h4] at heq
    ((repeat' (first|refine zza ?_|refine zc9 ?_|refine zzb fun w hw => ?_|refine zzh fun _ => ?_|refine zzi fun _ _ => ?_|refine zzj (fun _ => ?_) fun _ => ?_)); (repeat' (refine CW_seq ?_; (repeat' (first|refine zza ?_|refine zc9 ?_|refine zzb fun w hw => ?_|refine zzh fun _ => ?_|refine zzi fun _ _ => ?_|refine zzj (fun _ => ?_) fun _ => ?_)))))
    exact .inl ⟨(G, { aop := 0, af := fn }, k + 1, .agg #[.int .i64 0, .int .i64 fn, .int .i64 0, .int .i64 0, .slice none 0 0]), ⟨heq.symm, by dsimp only; omega, by dsimp only; omega, FnRep.plain⟩, rfl, Rd.grow_refl _ _, hw.ent zent⟩
  subst h4
  rw [if_pos rfl] at heq
  clear h13 h12
  obtain ⟨t, ht⟩ := get_lt (lt_of_kind hq2 (by decide))
  have hlt2 := (List.getElem?_eq_some_iff.1 ht).1
  have hmax := hR.max
  unfold maxLen at hmax
  have hle := hR.le
  rw [tdrop_cons ht] at heq
  dsimp only at heq
  obtain ⟨kind4, fn4, num4, text4, at4⟩ := t
  dsimp only at heq
  by_cases h33 : fn4 = 33
  · rw [if_pos h33] at heq
    subst h33
    ((repeat' (first|refine zza ?_|refine zc9 ?_|refine zzb fun w hw => ?_|refine zzh fun _ => ?_|refine zzi fun _ _ => ?_|refine zzj (fun _ => ?_) fun _ => ?_)); (repeat' (refine CW_seq ?_; (repeat' (first|refine zza ?_|refine zc9 ?_|refine zzb fun w hw => ?_|refine zzh fun _ => ?_|refine zzi fun _ _ => ?_|refine zzj (fun _ => ?_) fun _ => ?_)))))
    exact .inl ⟨(G, { aop := 1, af := fn }, k + 1 + 1, .agg #[.int .i64 1, .int .i64 fn, .int .i64 0, .int .i64 0, .slice none 0 0]), ⟨heq.symm, by dsimp only; omega, by dsimp only; omega, FnRep.plain⟩, rfl, Rd.grow_refl _ _, hw.ent zent⟩
  by_cases h34 : fn4 = 34
  · rw [if_neg h33, if_pos h34] at heq
    subst h34
    ((repeat' (first|refine zza ?_|refine zc9 ?_|refine zzb fun w hw => ?_|refine zzh fun _ => ?_|refine zzi fun _ _ => ?_|refine zzj (fun _ => ?_) fun _ => ?_)); (repeat' (refine CW_seq ?_; (repeat' (first|refine zza ?_|refine zc9 ?_|refine zzb fun w hw => ?_|refine zzh fun _ => ?_|refine zzi fun _ _ => ?_|refine zzj (fun _ => ?_) fun _ => ?_)))))
    exact .inl ⟨(G, { aop := 2, af := fn }, k + 1 + 1, .agg #[.int .i64 2, .int .i64 fn, .int .i64 0, .int .i64 0, .slice none 0 0]), ⟨heq.symm, by dsimp only; omega, by dsimp only; omega, FnRep.plain⟩, rfl, Rd.grow_refl _ _, hw.ent zent⟩
  rw [if_neg h33, if_neg h34] at heq
  ((repeat' (first|refine zza ?_|refine zc9 ?_|refine zzb fun w hw => ?_|refine zzh fun _ => ?_|refine zzi fun _ _ => ?_|refine zzj (fun _ => ?_) fun _ => ?_)); (repeat' (refine CW_seq ?_; (repeat' (first|refine zza ?_|refine zc9 ?_|refine zzb fun w hw => ?_|refine zzh fun _ => ?_|refine zzi fun _ _ => ?_|refine zzj (fun _ => ?_) fun _ => ?_)))))
  exact .inl ⟨(G, { aop := 0, af := fn }, k + 1, .agg #[.int .i64 0, .int .i64 fn, .int .i64 0, .int .i64 0, .slice none 0 0]), ⟨by rw [tdrop_cons ht]; exact heq.symm, by dsimp only; omega, by dsimp only; omega, FnRep.plain⟩, rfl, Rd.grow_refl _ _, hw.ent zent⟩
end Go.Proofs.YtngeooflfkpikaaGreatDoor
namespace Go.Proofs.YtngeooflfkpikaaGreatDoor
open Go.RowKit
set_option maxHeartbeats 8000000 in
set_option maxRecDepth 100000 in
theorem par_expression1 (p : Option Addr) (c : Nat) (L : List Tok) (hL : L.length ≤ 200) (k : Nat) (hE : ∀ k', k < k' → ExAt p c L k') : ExAt p c L k := by
  intro b d G w fp hk hdk hR hO hS
  refine enterR (args := [_]) hS hO Tryz.func80 rfl Tryz.ntmps80 (by simp) ?_
  have hfp := own_prs hO
  clear hO hS
  obtain ⟨Z, hZ⟩ : ∃ Z, exP d (L.drop k) = Z := ⟨_, rfl⟩
  rw [hZ]
  rw [exP_eq] at hZ
  obtain ⟨s, hs⟩ : ∃ s, startsT d (L.drop k) = s := ⟨_, rfl⟩
  have hst := fun W fp (hO : Own [prs b p L.length c k d] fp W) (hS : Rd.sub G fp W) => par_starts b p c k d L G W fp hR hk hO hS
  rw [hs] at hst hZ
  ((repeat' (first|refine zza ?_|refine zc9 ?_|refine zzb fun w hw => ?_|refine zzh fun _ => ?_|refine zzi fun _ _ => ?_|refine zzj (fun _ => ?_) fun _ => ?_)); (repeat' (refine CW_seq ?_; (repeat' (first|refine zza ?_|refine zc9 ?_|refine zzb fun w hw => ?_|refine zzh fun _ => ?_|refine zzi fun _ _ => ?_|refine zzj (fun _ => ?_) fun _ => ?_)))))
  (apply WL_callU1 (h := prs b p L.length c k d); (first | exact .here | exact .there .here | exact .there (.there .here) | exact .there (.there (.there .here)) | exact .there (.there (.there (.there .here))) | exact .there (.there (.there (.there (.there .here)))) | exact .there (.there (.there (.there (.there (.there .here)))))); (first | exact .here | exact .there .here | exact .there (.there .here) | exact .there (.there (.there .here)) | exact .there (.there (.there (.there .here))) | exact .there (.there (.there (.there (.there .here)))) | exact .there (.there (.there (.there (.there (.there .here)))))); rfl; rfl; rfl; (intro W fp hO hS; exact hst W fp hO hS))
  clear hst
  cases s with
  | true =>
    rw [if_pos rfl] at hZ
    ((repeat' (first|refine zza ?_|refine zc9 ?_|refine zzb fun w hw => ?_|refine zzh fun _ => ?_|refine zzi fun _ _ => ?_|refine zzj (fun _ => ?_) fun _ => ?_)); (repeat' (refine CW_seq ?_; (repeat' (first|refine zza ?_|refine zc9 ?_|refine zzb fun w hw => ?_|refine zzh fun _ => ?_|refine zzi fun _ _ => ?_|refine zzj (fun _ => ?_) fun _ => ?_)))))
    refine WL_callPar (G := G) (r := []) b p c L k d (fnP d (L.drop k)) FnRep (fun W fp' hW hO hS hF => par_function p c L hL k hE b d G W fp' hk hdk hR hO hS) ?_ ?_
    case refine_2 =>
      intro y k' hy
      rw [hy] at hZ
      ((repeat' (first|refine zza ?_|refine zc9 ?_|refine zzb fun w hw => ?_|refine zzh fun _ => ?_|refine zzi fun _ _ => ?_|refine zzj (fun _ => ?_) fun _ => ?_)); (repeat' (refine CW_seq ?_; (repeat' (first|refine zza ?_|refine zc9 ?_|refine zzb fun w hw => ?_|refine zzh fun _ => ?_|refine zzi fun _ _ => ?_|refine zzj (fun _ => ?_) fun _ => ?_)))))
      exact .inr ⟨(y, k'), hZ.symm, rfl, Rd.grow_refl _ _, hw.ent zent⟩
    rintro ⟨G1, f, k1, v1⟩ hy hk1 hk1L hr1 hg1
    dsimp only at hy hk1 hk1L hr1 hg1 ⊢
    obtain ⟨vp, vc, vvs, rfl, hrow, hrep⟩ := hr1
    rw [hy] at hZ
    change (exP d (L.drop k1)).bind _ = Z at hZ
    clear hy
    refine zzh fun b4 => ?_
    refine zza ?_
    refine zza ?_
    refine zza ?_
    refine zza ?_
    refine CW_ent (m' := [blk b4 168 #[.int .i64 f.aop, .int .i64 f.af, .int .i64 f.ag, .int .i64 (f.n : Int), .slice vp vvs.length vc], prs b p L.length c k1 d, ro w fp G1]) (Ent.consK (k := zent) .here) ?_
    refine CW_perm 3 [0, 1, 2] [blk b4 168 #[.int .i64 f.aop, .int .i64 f.af, .int .i64 f.ag, .int .i64 (f.n : Int), .slice vp vvs.length vc]] [] Cov.nil (pm := [prs b p L.length c k1 d, ro w fp G1]) zent (by kernel_rfl) (by decide +kernel) (by kernel_rfl) ?_
    (refine WP_op rfl rfl rfl zyi ?_)
    (refine WP_op rfl rfl rfl zyi ?_)
    refine WP_callPar (G := G1) (r := [blk b4 168 #[.int .i64 f.aop, .int .i64 f.af, .int .i64 f.ag, .int .i64 (f.n : Int), .slice vp vvs.length vc]]) b p c L k1 d (exP d (L.drop k1)) ExRep rfl (fun W fp' hW hO hS hF => hE k1 hk1 b d G1 W fp' (by omega) (by omega) (hR.mono hg1.1) hO hS) (fun _ _ => ⟨[], zent⟩) ?_ ?_
    case refine_2 =>
      intro y k' hy
      rw [hy] at hZ
      ((repeat' (first|refine zza ?_|refine zc9 ?_|refine zzb fun w hw => ?_|refine zzh fun _ => ?_|refine zzi fun _ _ => ?_|refine zzj (fun _ => ?_) fun _ => ?_)); (repeat' (refine CW_seq ?_; (repeat' (first|refine zza ?_|refine zc9 ?_|refine zzb fun w hw => ?_|refine zzh fun _ => ?_|refine zzi fun _ _ => ?_|refine zzj (fun _ => ?_) fun _ => ?_)))))
      exact .inr ⟨(y, k'), hZ.symm, rfl, Rd.grow_refl _ _, hw.ent (Ent.roLe hg1.1 zpk zent)⟩
    rintro ⟨G2, e2, k2, v2⟩ hy hk2 hk2L hr2 hg2
    dsimp only at hy hk2 hk2L hr2 hg2 ⊢
    obtain ⟨T2, u2, rfl⟩ := Ex.rep_iface hr2
    rw [hy] at hZ
    refine WP_end ?_
    ((repeat' (first|refine zza ?_|refine zc9 ?_|refine zzb fun w hw => ?_|refine zzh fun _ => ?_|refine zzi fun _ _ => ?_|refine zzj (fun _ => ?_) fun _ => ?_)); (repeat' (refine CW_seq ?_; (repeat' (first|refine zza ?_|refine zc9 ?_|refine zzb fun w hw => ?_|refine zzh fun _ => ?_|refine zzi fun _ _ => ?_|refine zzj (fun _ => ?_) fun _ => ?_)))))
    exact .inl ⟨(G2, .one (f.node 6) (Exs.of f.body) e2, k2, .iface 170 (.agg #[.int .i64 f.aop, .int .i64 f.af, .int .i64 f.ag, .int .i64 (f.n : Int), .slice vp vvs.length vc, .iface T2 u2])), ⟨hZ.symm, by dsimp only; omega, hk2L, ⟨vp, vc, vvs, _, rfl, hrow.mono hg2.1, Exs.rep_mono hg2.1 hrep, hr2⟩⟩, rfl, Rd.grow_tr hg1 hg2, hw.ent zent⟩
  | false =>
    rw [if_neg (by decide)] at hZ
    ((repeat' (first|refine zza ?_|refine zc9 ?_|refine zzb fun w hw => ?_|refine zzh fun _ => ?_|refine zzi fun _ _ => ?_|refine zzj (fun _ => ?_) fun _ => ?_)); (repeat' (refine CW_seq ?_; (repeat' (first|refine zza ?_|refine zc9 ?_|refine zzb fun w hw => ?_|refine zzh fun _ => ?_|refine zzi fun _ _ => ?_|refine zzj (fun _ => ?_) fun _ => ?_)))))
    refine WL_callPar (G := G) (r := []) b p c L k d (tmP d (L.drop k)) ExRep (fun W fp' hW hO hS hF => par_term p c L hL k hE b d G W fp' hk hdk hR hO hS) ?_ ?_
    case refine_2 =>
      intro y k' hy
      rw [hy] at hZ
      ((repeat' (first|refine zza ?_|refine zc9 ?_|refine zzb fun w hw => ?_|refine zzh fun _ => ?_|refine zzi fun _ _ => ?_|refine zzj (fun _ => ?_) fun _ => ?_)); (repeat' (refine CW_seq ?_; (repeat' (first|refine zza ?_|refine zc9 ?_|refine zzb fun w hw => ?_|refine zzh fun _ => ?_|refine zzi fun _ _ => ?_|refine zzj (fun _ => ?_) fun _ => ?_)))))
      exact .inr ⟨(y, k'), hZ.symm, rfl, Rd.grow_refl _ _, hw.ent zent⟩
    rintro ⟨G0, e0, k0, v0⟩ hy hk0 hk0L hr0 hg0
    dsimp only at hy hk0 hk0L hr0 hg0 ⊢
    obtain ⟨T0, u0, rfl⟩ := Ex.rep_iface hr0
    rw [hy] at hZ
    clear hy
    change (if startsT d (L.drop k0) = true then (fnP d (L.drop k0)).bind _ else _) = Z at hZ
    clear hs
    obtain ⟨s, hs⟩ : ∃ s, startsT d (L.drop k0) = s := ⟨_, rfl⟩
    have hst := fun W fp (hO : Own [prs b p L.length c k0 d] fp W) (hS : Rd.sub G0 fp W) => par_starts b p c k0 d L G0 W fp (hR.mono hg0.1) hk0L hO hS
    rw [hs] at hst hZ
    ((repeat' (first|refine zza ?_|refine zc9 ?_|refine zzb fun w hw => ?_|refine zzh fun _ => ?_|refine zzi fun _ _ => ?_|refine zzj (fun _ => ?_) fun _ => ?_)); (repeat' (refine CW_seq ?_; (repeat' (first|refine zza ?_|refine zc9 ?_|refine zzb fun w hw => ?_|refine zzh fun _ => ?_|refine zzi fun _ _ => ?_|refine zzj (fun _ => ?_) fun _ => ?_)))))
    (apply WL_callU1 (h := prs b p L.length c k0 d); (first | exact .here | exact .there .here | exact .there (.there .here) | exact .there (.there (.there .here)) | exact .there (.there (.there (.there .here))) | exact .there (.there (.there (.there (.there .here)))) | exact .there (.there (.there (.there (.there (.there .here)))))); (first | exact .here | exact .there .here | exact .there (.there .here) | exact .there (.there (.there .here)) | exact .there (.there (.there (.there .here))) | exact .there (.there (.there (.there (.there .here)))) | exact .there (.there (.there (.there (.there (.there .here)))))); rfl; rfl; rfl; (intro W fp hO hS; exact hst W fp hO hS))
    clear hst
    cases s with
    | false =>
      rw [if_neg (by decide)] at hZ
      ((repeat' (first|refine zza ?_|refine zc9 ?_|refine zzb fun w hw => ?_|refine zzh fun _ => ?_|refine zzi fun _ _ => ?_|refine zzj (fun _ => ?_) fun _ => ?_)); (repeat' (refine CW_seq ?_; (repeat' (first|refine zza ?_|refine zc9 ?_|refine zzb fun w hw => ?_|refine zzh fun _ => ?_|refine zzi fun _ _ => ?_|refine zzj (fun _ => ?_) fun _ => ?_)))))
      exact .inl ⟨(G0, e0, k0, .iface T0 u0), ⟨hZ.symm, hk0, hk0L, hr0⟩, rfl, hg0, hw.ent zent⟩
    | true =>
      rw [if_pos rfl] at hZ
      ((repeat' (first|refine zza ?_|refine zc9 ?_|refine zzb fun w hw => ?_|refine zzh fun _ => ?_|refine zzi fun _ _ => ?_|refine zzj (fun _ => ?_) fun _ => ?_)); (repeat' (refine CW_seq ?_; (repeat' (first|refine zza ?_|refine zc9 ?_|refine zzb fun w hw => ?_|refine zzh fun _ => ?_|refine zzi fun _ _ => ?_|refine zzj (fun _ => ?_) fun _ => ?_)))))
      refine WL_callPar (G := G0) (r := []) b p c L k0 d (fnP d (L.drop k0)) FnRep (fun W fp' hW hO hS hF => par_function p c L hL k0 (fun k' h => hE k' (by omega)) b d G0 W fp' hk0L (by omega) (hR.mono hg0.1) hO hS) ?_ ?_
      case refine_2 =>
        intro y k' hy
        rw [hy] at hZ
        ((repeat' (first|refine zza ?_|refine zc9 ?_|refine zzb fun w hw => ?_|refine zzh fun _ => ?_|refine zzi fun _ _ => ?_|refine zzj (fun _ => ?_) fun _ => ?_)); (repeat' (refine CW_seq ?_; (repeat' (first|refine zza ?_|refine zc9 ?_|refine zzb fun w hw => ?_|refine zzh fun _ => ?_|refine zzi fun _ _ => ?_|refine zzj (fun _ => ?_) fun _ => ?_)))))
        exact .inr ⟨(y, k'), hZ.symm, rfl, Rd.grow_refl _ _, hw.ent (Ent.roLe hg0.1 zpk zent)⟩
      rintro ⟨G1, f, k1, v1⟩ hy hk1 hk1L hr1 hg1
      dsimp only at hy hk1 hk1L hr1 hg1 ⊢
      obtain ⟨vp, vc, vvs, rfl, hrow, hrep⟩ := hr1
      rw [hy] at hZ
      change (exP d (L.drop k1)).bind _ = Z at hZ
      clear hy
      have hg01 := Rd.grow_tr hg0 hg1
      refine zzh fun b4 => ?_
      refine zza ?_
      refine zza ?_
      refine zza ?_
      refine zza ?_
      refine CW_ent (m' := [blk b4 168 #[.int .i64 f.aop, .int .i64 f.af, .int .i64 f.ag, .int .i64 (f.n : Int), .slice vp vvs.length vc], prs b p L.length c k1 d, ro w fp G1]) (Ent.consK (k := zent) .here) ?_
      refine CW_perm 4 [0, 1, 2, 3] [blk b4 168 #[.int .i64 f.aop, .int .i64 f.af, .int .i64 f.ag, .int .i64 (f.n : Int), .slice vp vvs.length vc]] [] Cov.nil (pm := [prs b p L.length c k1 d, ro w fp G1]) zent (by kernel_rfl) (by decide +kernel) (by kernel_rfl) ?_
      (refine WP_op rfl rfl rfl zyi ?_)
      (refine WP_op rfl rfl rfl zyi ?_)
      (refine WP_op rfl rfl rfl zyi ?_)
      refine WP_callPar (G := G1) (r := [blk b4 168 #[.int .i64 f.aop, .int .i64 f.af, .int .i64 f.ag, .int .i64 (f.n : Int), .slice vp vvs.length vc]]) b p c L k1 d (exP d (L.drop k1)) ExRep rfl (fun W fp' hW hO hS hF => hE k1 (by omega) b d G1 W fp' (by omega) (by omega) (hR.mono hg01.1) hO hS) (fun _ _ => ⟨[], zent⟩) ?_ ?_
      case refine_2 =>
        intro y k' hy
        rw [hy] at hZ
        ((repeat' (first|refine zza ?_|refine zc9 ?_|refine zzb fun w hw => ?_|refine zzh fun _ => ?_|refine zzi fun _ _ => ?_|refine zzj (fun _ => ?_) fun _ => ?_)); (repeat' (refine CW_seq ?_; (repeat' (first|refine zza ?_|refine zc9 ?_|refine zzb fun w hw => ?_|refine zzh fun _ => ?_|refine zzi fun _ _ => ?_|refine zzj (fun _ => ?_) fun _ => ?_)))))
        exact .inr ⟨(y, k'), hZ.symm, rfl, Rd.grow_refl _ _, hw.ent (Ent.roLe hg01.1 zpk zent)⟩
      rintro ⟨G2, e2, k2, v2⟩ hy hk2 hk2L hr2 hg2
      dsimp only at hy hk2 hk2L hr2 hg2 ⊢
      obtain ⟨T2, u2, rfl⟩ := Ex.rep_iface hr2
      rw [hy] at hZ
      refine WP_end ?_
      ((repeat' (first|refine zza ?_|refine zc9 ?_|refine zzb fun w hw => ?_|refine zzh fun _ => ?_|refine zzi fun _ _ => ?_|refine zzj (fun _ => ?_) fun _ => ?_)); (repeat' (refine CW_seq ?_; (repeat' (first|refine zza ?_|refine zc9 ?_|refine zzb fun w hw => ?_|refine zzh fun _ => ?_|refine zzi fun _ _ => ?_|refine zzj (fun _ => ?_) fun _ => ?_)))))
      exact .inl ⟨(G2, .two (f.node 7) e0 (Exs.of f.body) e2, k2, .iface 175 (.agg #[.iface T0 u0, .int .i64 f.aop, .int .i64 f.af, .int .i64 f.ag, .int .i64 (f.n : Int), .slice vp vvs.length vc, .iface T2 u2])), ⟨hZ.symm, by dsimp only; omega, hk2L, ⟨vp, vc, vvs, _, _, rfl, hrow.mono hg2.1, Ex.rep_mono (Rd.le_trans hg1.1 hg2.1) hr0, Exs.rep_mono hg2.1 hrep, hr2⟩⟩, rfl, Rd.grow_tr hg01 hg2, hw.ent zent⟩
theorem par_expression (p : Option Addr) (c : Nat) (L : List Tok) (hL : L.length ≤ 200) (k : Nat) : ExAt p c L k := by
  have key : ∀ n k, L.length + 1 - k ≤ n → ExAt p c L k := by
    intro n
    induction n with
    | zero => exact fun k h b d G w fp hk => absurd hk (by omega)
    | succ n ih => exact fun k h => par_expression1 p c L hL k fun k' hk' => if hkL : L.length + 1 - k = 0 then fun b d G w fp hk => absurd hk (by omega) else ih k' (by omega)
  exact key _ k (Nat.le_refl _)
end Go.Proofs.YtngeooflfkpikaaGreatDoor
namespace Go.Proofs.YtngeooflfkpikaaGreatDoor
open Go.RowKit
/-- the parser's block, wherever it is: its words stay -/
def prx (b : Nat) (p : Option Addr) (n c : Nat) : HP where
  p w fp := ∃ k d : Nat, (prs b p n c k d).p w fp
  st w w' fp h := by
    rintro ⟨k, d, hp⟩
    exact ⟨k, d, (prs b p n c k d).st w w' fp h hp⟩
  lt w fp := by
    rintro ⟨k, d, hp⟩
    exact (prs b p n c k d).lt w fp hp
theorem Ent.prx {b : Nat} {p : Option Addr} {n c k d : Nat} {m r m' : List HP} (hp : Pick m (prs b p n c k d) r) (kk : Ent r m') : Ent m (Go.Proofs.YtngeooflfkpikaaGreatDoor.prx b p n c :: m') := fun fp w ho => by
  obtain ⟨f1, f2, he, k1, k2, kd⟩ := hp.own ho
  obtain ⟨f3, h3, hs⟩ := kk f2 w k2
  refine ⟨f1 ++ f3, ⟨f1, f3, rfl, ⟨k, d, k1⟩, h3, fun i hi h => kd i hi (hs i h)⟩, fun i hi => ?_⟩
  rcases List.mem_append.1 hi with hi | hi
  · exact (he i).2 (.inl hi)
  · exact (he i).2 (.inr (hs i hi))
theorem rd_prx {K : Cx} {b : Nat} {p : Option Addr} {n c : Nat} {m r : List HP} (hp : Pick m (prx b p n c) r) : RdC K m ⟨b, 0, none⟩ [.slice p n c] := fun w hw j v hv => by
  obtain ⟨fp, k, d, hfp, hb⟩ := hw.pick hp
  have hj : j = 0 := by have := (List.getElem?_eq_some_iff.1 hv).1; simp at this; omega
  subst hj
  simp at hv; subst hv
  rw [add_zero]
  simp [World.cell?, hb]
/-- a line, as it is handed on -/
def LnRep (G : Rd) (x : Option (List UInt8) × Ex) (v : Value) : Prop := match x.1 with
  | none => x.2.rep G v
  | some s => ∃ u, v = .iface 148 (.agg #[.string ⟨s.toArray⟩, u]) ∧ x.2.rep G u
theorem linP_plain {L : List Tok} (h : ¬ ∃ t u r, L = t :: u :: r ∧ t.kind = 3 ∧ u.kind = 10) : linP L = (exP 0 L).bind fun x => .ok ((none, x.1), x.2) := by
  unfold linP
  match L, h with
  | [], _ => rfl
  | [t], _ => rfl
  | t :: u :: r, h =>
    simp only
    rw [if_neg fun k => h ⟨t, u, r, rfl, k⟩]
set_option maxHeartbeats 8000000 in
set_option maxRecDepth 100000 in
theorem par_line (p : Option Addr) (c : Nat) (L : List Tok) (hL : L.length ≤ 200) (b : Nat) (G : Rd) (u0 : World) (fp : List Nat) (hR : Row tokE 5 G p c L) (hO : Own [prs b p L.length c 0 0] fp u0) (hS : Rd.sub G fp u0) :
    Calls Tryz.prog 32 #[.pointer (some ⟨b, 0, none⟩)] u0 (PGot b p c L 0 (linP L) LnRep G u0 fp 0) := by
  refine enterR (args := [_]) hS hO Tryz.func32 rfl Tryz.ntmps32 (by simp) ?_
  have hfp := own_prs hO
  clear hO
  have hmax := hR.max
  unfold maxLen at hmax
  have hle := hR.le
  obtain ⟨Z, hZ⟩ : ∃ Z, linP L = Z := ⟨_, rfl⟩
  rw [hZ]
  by_cases hset : ∃ t u r, L = t :: u :: r ∧ t.kind = 3 ∧ u.kind = 10
  · obtain ⟨t, u, r, hLe, ht3, hu10⟩ := hset
    have hd2 : L.drop 2 = r := by rw [hLe]; rfl
    have hZ' : (exP 0 (L.drop 2)).bind (fun x => .ok ((some t.text, x.1), x.2)) = Z := by
      rw [hd2, ← hZ, hLe]
      unfold linP
      simp only
      rw [if_pos ⟨ht3, hu10⟩]
    have h0 : L[0]? = some t := by rw [hLe]; rfl
    have h1 : L[1]? = some u := by rw [hLe]; rfl
    have hlen : 2 ≤ L.length := by rw [hLe]; simp
    clear hLe hd2
    have h1gt : (1 : Int) < (L.length : Int) := by omega
    (repeat' (first|refine zza ?_|refine zzb fun w hw => ?_|refine zzh fun _ => ?_|refine zzi fun _ _ => ?_|refine zzj (fun _ => ?_) fun _ => ?_))
    refine WL_op rfl rfl (y_indexN (i := 0) rfl rfl (Row.some_lt hR (show 0 < L.length by omega)) (by omega)) ?_
    (repeat' (first|refine zza ?_|refine zzb fun w hw => ?_|refine zzh fun _ => ?_|refine zzi fun _ _ => ?_|refine zzj (fun _ => ?_) fun _ => ?_))
    refine WL_op rfl rfl (y_indexN (i := 1) rfl rfl (Row.some_lt hR (show 1 < L.length by omega)) (by omega)) ?_
    iterate 16 (refine zza ?_)
    refine CW_ent (m' := [prs b p L.length c 2 0, ro u0 fp G, ro u0 fp G]) (Ent.consK (k := Ent.cons .here (Ent.roSub hS Ent.nil)) .here) ?_
    refine CW_perm 10 [0, 1, 2, 3, 4, 5, 6, 7, 8, 9] [prx b p L.length c, ro u0 fp G] [] Cov.nil (pm := [ro u0 fp G]) (Ent.cons (.there .here) (Ent.prx .here (Ent.cons .here Ent.nil))) (by kernel_rfl) (by decide +kernel) (by kernel_rfl) ?_
    (refine WP_op rfl rfl rfl zyi ?_)
    (refine WP_op rfl rfl rfl zyi ?_)
    (refine WP_op rfl rfl rfl zyi ?_)
    refine WP_op rfl rfl rfl (y_load rfl (rd_prx .here)) ?_
    refine WP_op rfl rfl rfl (y_indexN (i := 0) rfl rfl (Row.some_lt hR (show 0 < L.length by omega)) (by omega)) ?_
    (refine WP_op rfl rfl rfl zyi ?_)
    (refine WP_op rfl rfl rfl zyi ?_)
    (refine WP_op rfl rfl rfl zyi ?_)
    (refine WP_op rfl rfl rfl zyi ?_)
    refine WP_callPar (G := G) (r := [ro u0 fp G]) b p c L 2 0 (exP 0 (L.drop 2)) ExRep rfl (fun W fp' hW hO hS hF => par_expression p c L hL 2 b 0 G W fp' hlen (by omega) hR hO hS) (fun G' k' => ⟨[ro u0 fp G'], Ent.cons .here (Ent.prx .here (Ent.cons .here Ent.nil))⟩) ?_ ?_
    case refine_2 =>
      intro y k' hy
      rw [hy] at hZ'
      ((repeat' (first|refine zza ?_|refine zc9 ?_|refine zzb fun w hw => ?_|refine zzh fun _ => ?_|refine zzi fun _ _ => ?_|refine zzj (fun _ => ?_) fun _ => ?_)); (repeat' (refine CW_seq ?_; (repeat' (first|refine zza ?_|refine zc9 ?_|refine zzb fun w hw => ?_|refine zzh fun _ => ?_|refine zzi fun _ _ => ?_|refine zzj (fun _ => ?_) fun _ => ?_)))))
      exact .inr ⟨(y, k'), hZ'.symm, rfl, Rd.grow_refl _ _, hw.ent zent⟩
    rintro ⟨G1, e1, k1, v1⟩ hy hk1 hk1L hr1 hg1
    dsimp only at hy hk1 hk1L hr1 hg1 ⊢
    obtain ⟨T1, u1, rfl⟩ := Ex.rep_iface hr1
    rw [hy] at hZ'
    refine WP_end ?_
    ((repeat' (first|refine zza ?_|refine zc9 ?_|refine zzb fun w hw => ?_|refine zzh fun _ => ?_|refine zzi fun _ _ => ?_|refine zzj (fun _ => ?_) fun _ => ?_)); (repeat' (refine CW_seq ?_; (repeat' (first|refine zza ?_|refine zc9 ?_|refine zzb fun w hw => ?_|refine zzh fun _ => ?_|refine zzi fun _ _ => ?_|refine zzj (fun _ => ?_) fun _ => ?_)))))
    exact .inl ⟨(G1, (some t.text, e1), k1, .iface 148 (.agg #[.string ⟨t.text.toArray⟩, .iface T1 u1])), ⟨hZ'.symm, by dsimp only; omega, hk1L, ⟨_, rfl, hr1⟩⟩, rfl, hg1, hw.ent zent⟩
  · rw [linP_plain hset] at hZ
    have hdrop : exP 0 L = exP 0 (L.drop 0) := by rw [List.drop_zero]
    rw [hdrop] at hZ
    by_cases hlen : 1 < L.length
    case neg =>
      ((repeat' (first|refine zza ?_|refine zc9 ?_|refine zzb fun w hw => ?_|refine zzh fun _ => ?_|refine zzi fun _ _ => ?_|refine zzj (fun _ => ?_) fun _ => ?_)); (repeat' (refine CW_seq ?_; (repeat' (first|refine zza ?_|refine zc9 ?_|refine zzb fun w hw => ?_|refine zzh fun _ => ?_|refine zzi fun _ _ => ?_|refine zzj (fun _ => ?_) fun _ => ?_)))))
      refine WL_callPar (G := G) (r := []) b p c L 0 0 (exP 0 (L.drop 0)) ExRep (fun W fp' hW hO hS hF => par_expression p c L hL 0 b 0 G W fp' (by omega) (by omega) hR hO hS) ?_ ?_
      case refine_2 =>
        intro y k' hy
        rw [hy] at hZ
        ((repeat' (first|refine zza ?_|refine zc9 ?_|refine zzb fun w hw => ?_|refine zzh fun _ => ?_|refine zzi fun _ _ => ?_|refine zzj (fun _ => ?_) fun _ => ?_)); (repeat' (refine CW_seq ?_; (repeat' (first|refine zza ?_|refine zc9 ?_|refine zzb fun w hw => ?_|refine zzh fun _ => ?_|refine zzi fun _ _ => ?_|refine zzj (fun _ => ?_) fun _ => ?_)))))
        exact .inr ⟨(y, k'), hZ.symm, rfl, Rd.grow_refl _ _, hw.ent zent⟩
      rintro ⟨G1, e1, k1, v1⟩ hy hk1 hk1L hr1 hg1
      dsimp only at hy hk1 hk1L hr1 hg1 ⊢
      obtain ⟨T1, u1, rfl⟩ := Ex.rep_iface hr1
      rw [hy] at hZ
      ((repeat' (first|refine zza ?_|refine zc9 ?_|refine zzb fun w hw => ?_|refine zzh fun _ => ?_|refine zzi fun _ _ => ?_|refine zzj (fun _ => ?_) fun _ => ?_)); (repeat' (refine CW_seq ?_; (repeat' (first|refine zza ?_|refine zc9 ?_|refine zzb fun w hw => ?_|refine zzh fun _ => ?_|refine zzi fun _ _ => ?_|refine zzj (fun _ => ?_) fun _ => ?_)))))
      exact .inl ⟨(G1, (none, e1), k1, .iface T1 u1), ⟨hZ.symm, hk1, hk1L, hr1⟩, rfl, hg1, hw.ent zent⟩
    obtain ⟨t, h0⟩ := get_lt (show 0 < L.length by omega)
    obtain ⟨u, h1⟩ := get_lt hlen
    have hnk : ¬ (t.kind = 3 ∧ u.kind = 10) := fun h => hset ⟨t, u, L.drop 2, by
      have e0 := tdrop_cons h0
      have e1 := tdrop_cons h1
      rw [List.drop_zero] at e0
      exact e0.trans (by rw [e1]), h.1, h.2⟩
    clear hset
    have h1gt : (1 : Int) < (L.length : Int) := by omega
    by_cases ht3 : t.kind = 3
    · have hu10 : ¬ u.kind = 10 := fun h => hnk ⟨ht3, h⟩
      clear hnk
      (repeat' (first|refine zza ?_|refine zzb fun w hw => ?_|refine zzh fun _ => ?_|refine zzi fun _ _ => ?_|refine zzj (fun _ => ?_) fun _ => ?_))
      refine WL_op rfl rfl (y_indexN (i := 0) rfl rfl (Row.some_lt hR (show 0 < L.length by omega)) (by omega)) ?_
      ((repeat' (first|refine zza ?_|refine zc9 ?_|refine zzb fun w hw => ?_|refine zzh fun _ => ?_|refine zzi fun _ _ => ?_|refine zzj (fun _ => ?_) fun _ => ?_)); (repeat' (refine CW_seq ?_; (repeat' (first|refine zza ?_|refine zc9 ?_|refine zzb fun w hw => ?_|refine zzh fun _ => ?_|refine zzi fun _ _ => ?_|refine zzj (fun _ => ?_) fun _ => ?_)))))
      refine WL_callPar (G := G) (r := []) b p c L 0 0 (exP 0 (L.drop 0)) ExRep (fun W fp' hW hO hS hF => par_expression p c L hL 0 b 0 G W fp' (by omega) (by omega) hR hO hS) ?_ ?_
      case refine_2 =>
        intro y k' hy
        rw [hy] at hZ
        ((repeat' (first|refine zza ?_|refine zc9 ?_|refine zzb fun w hw => ?_|refine zzh fun _ => ?_|refine zzi fun _ _ => ?_|refine zzj (fun _ => ?_) fun _ => ?_)); (repeat' (refine CW_seq ?_; (repeat' (first|refine zza ?_|refine zc9 ?_|refine zzb fun w hw => ?_|refine zzh fun _ => ?_|refine zzi fun _ _ => ?_|refine zzj (fun _ => ?_) fun _ => ?_)))))
        exact .inr ⟨(y, k'), hZ.symm, rfl, Rd.grow_refl _ _, hw.ent zent⟩
      rintro ⟨G1, e1, k1, v1⟩ hy hk1 hk1L hr1 hg1
      dsimp only at hy hk1 hk1L hr1 hg1 ⊢
      obtain ⟨T1, u1, rfl⟩ := Ex.rep_iface hr1
      rw [hy] at hZ
      ((repeat' (first|refine zza ?_|refine zc9 ?_|refine zzb fun w hw => ?_|refine zzh fun _ => ?_|refine zzi fun _ _ => ?_|refine zzj (fun _ => ?_) fun _ => ?_)); (repeat' (refine CW_seq ?_; (repeat' (first|refine zza ?_|refine zc9 ?_|refine zzb fun w hw => ?_|refine zzh fun _ => ?_|refine zzi fun _ _ => ?_|refine zzj (fun _ => ?_) fun _ => ?_)))))
      exact .inl ⟨(G1, (none, e1), k1, .iface T1 u1), ⟨hZ.symm, hk1, hk1L, hr1⟩, rfl, hg1, hw.ent zent⟩
    · clear hnk
      (repeat' (first|refine zza ?_|refine zzb fun w hw => ?_|refine zzh fun _ => ?_|refine zzi fun _ _ => ?_|refine zzj (fun _ => ?_) fun _ => ?_))
      refine WL_op rfl rfl (y_indexN (i := 0) rfl rfl (Row.some_lt hR (show 0 < L.length by omega)) (by omega)) ?_
      ((repeat' (first|refine zza ?_|refine zc9 ?_|refine zzb fun w hw => ?_|refine zzh fun _ => ?_|refine zzi fun _ _ => ?_|refine zzj (fun _ => ?_) fun _ => ?_)); (repeat' (refine CW_seq ?_; (repeat' (first|refine zza ?_|refine zc9 ?_|refine zzb fun w hw => ?_|refine zzh fun _ => ?_|refine zzi fun _ _ => ?_|refine zzj (fun _ => ?_) fun _ => ?_)))))
      refine WL_callPar (G := G) (r := []) b p c L 0 0 (exP 0 (L.drop 0)) ExRep (fun W fp' hW hO hS hF => par_expression p c L hL 0 b 0 G W fp' (by omega) (by omega) hR hO hS) ?_ ?_
      case refine_2 =>
        intro y k' hy
        rw [hy] at hZ
        ((repeat' (first|refine zza ?_|refine zc9 ?_|refine zzb fun w hw => ?_|refine zzh fun _ => ?_|refine zzi fun _ _ => ?_|refine zzj (fun _ => ?_) fun _ => ?_)); (repeat' (refine CW_seq ?_; (repeat' (first|refine zza ?_|refine zc9 ?_|refine zzb fun w hw => ?_|refine zzh fun _ => ?_|refine zzi fun _ _ => ?_|refine zzj (fun _ => ?_) fun _ => ?_)))))
        exact .inr ⟨(y, k'), hZ.symm, rfl, Rd.grow_refl _ _, hw.ent zent⟩
      rintro ⟨G1, e1, k1, v1⟩ hy hk1 hk1L hr1 hg1
      dsimp only at hy hk1 hk1L hr1 hg1 ⊢
      obtain ⟨T1, u1, rfl⟩ := Ex.rep_iface hr1
      rw [hy] at hZ
      ((repeat' (first|refine zza ?_|refine zc9 ?_|refine zzb fun w hw => ?_|refine zzh fun _ => ?_|refine zzi fun _ _ => ?_|refine zzj (fun _ => ?_) fun _ => ?_)); (repeat' (refine CW_seq ?_; (repeat' (first|refine zza ?_|refine zc9 ?_|refine zzb fun w hw => ?_|refine zzh fun _ => ?_|refine zzi fun _ _ => ?_|refine zzj (fun _ => ?_) fun _ => ?_)))))
      exact .inl ⟨(G1, (none, e1), k1, .iface T1 u1), ⟨hZ.symm, hk1, hk1L, hr1⟩, rfl, hg1, hw.ent zent⟩
end Go.Proofs.YtngeooflfkpikaaGreatDoor
