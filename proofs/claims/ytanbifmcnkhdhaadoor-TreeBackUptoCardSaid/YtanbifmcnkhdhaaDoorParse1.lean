/-
  tree: the parser's next word: what kind it is of, that it must be of one; does a function stand here?
-/
import Derived.Test.YtanbifmcnkhdhaaDoorGo
import Derived.Test.YtanbifmcnkhdhaaDoorOpenNod
import Derived.Test.YtanbifmcnkhdhaaDoorRetC
import Derived.Test.YtanbifmcnkhdhaaDoorAnyL
import Derived.Test.YtanbifmcnkhdhaaDoorParseGood
import Derived.Test.YtanbifmcnkhdhaaDoorMeth
namespace Go.Proofs.YtanbifmcnkhdhaaDoor
open Go.RowKit

/-- the parser: the words, where it is, within how many functions -/
abbrev prs (b : Nat) (p : Option Addr) (n c : Nat) (k d : Nat) : HP := blk b 54 #[.slice p n c, .int .i64 (k : Int), .int .i64 (d : Int)]
theorem tdrop_cons {L : List Tok} {k : Nat} {t : Tok} (h : L[k]? = some t) : L.drop k = t :: L.drop (k + 1) := by
  obtain ⟨hl, rfl⟩ := List.getElem?_eq_some_iff.1 h
  exact List.drop_eq_getElem_cons hl
theorem kind_at {L : List Tok} {k : Nat} {t : Tok} (h : L[k]? = some t) : kindT (L.drop k) = t.kind := by rw [tdrop_cons h]; rfl
theorem kind_end {L : List Tok} {k : Nat} (h : L.length ≤ k) : kindT (L.drop k) = 0 := by rw [List.drop_eq_nil_of_le h]; rfl
theorem get_lt {L : List Tok} {k : Nat} (h : k < L.length) : ∃ t, L[k]? = some t := ⟨L[k], by simp [h]⟩
theorem lt_of_kind {L : List Tok} {k : Nat} {q : Int} (h : kindT (L.drop k) = q) (h0 : q ≠ 0) : k < L.length := by
  refine Nat.lt_of_not_le fun hle => h0 ?_
  rw [← h, kind_end hle]
theorem own_prs {b n c k d : Nat} {p : Option Addr} {w : World} {fp : List Nat} (h : Own [prs b p n c k d] fp w) : fp = [b] := by
  obtain ⟨f1, f2, rfl, ⟨rfl, _⟩, h2, _⟩ := h
  simp only [Own] at h2
  subst h2
  rfl
set_option maxRecDepth 100000 in
theorem par_fail (b : Nat) (p : Option Addr) (n c k d : Nat) (G : Rd) (w : World) (fp : List Nat) (hO : Own [prs b p n c k d] fp w) (hS : Rd.sub G fp w) :
    Calls Tryd.prog 12 #[.pointer (some ⟨b, 0, none⟩)] w fun e w' => e = .panicked (wrongP k) ∧ Holds w fp (ro w fp G :: [prs b p n c k d]) w' := by
  refine enterR (args := [_]) hS hO Tryd.func12 rfl Tryd.ntmps12 (by simp) ?_
  ((repeat' (first|refine zza ?_|refine zc9 ?_|refine zzb fun w hw => ?_|refine zzh fun _ => ?_|refine zzi fun _ _ => ?_|refine zzj (fun _ => ?_) fun _ => ?_)); (repeat' (refine CW_seq ?_; (repeat' (first|refine zza ?_|refine zc9 ?_|refine zzb fun w hw => ?_|refine zzh fun _ => ?_|refine zzi fun _ _ => ?_|refine zzj (fun _ => ?_) fun _ => ?_)))))
  exact ⟨rfl, hw.ent zent⟩
set_option maxRecDepth 100000 in
theorem par_kind (b : Nat) (p : Option Addr) (c k d : Nat) (L : List Tok) (G : Rd) (w : World) (fp : List Nat) (hR : Row tokE 5 G p c L) (hk : k ≤ L.length) (hO : Own [prs b p L.length c k d] fp w) (hS : Rd.sub G fp w) :
    Calls Tryd.prog 49 #[.pointer (some ⟨b, 0, none⟩)] w fun e w' => e = .returned (.int .i64 (kindT (L.drop k))) ∧ Holds w fp (ro w fp G :: [prs b p L.length c k d]) w' := by
  refine enterR (args := [_]) hS hO Tryd.func49 rfl Tryd.ntmps49 (by simp) ?_
  clear hO hS
  have hmax := hR.max
  unfold maxLen at hmax
  have hle := hR.le
  by_cases hlt : k < L.length
  · obtain ⟨t, ht⟩ := get_lt hlt
    rw [kind_at ht]
    ((repeat' (first|refine zza ?_|refine zc9 ?_|refine zzb fun w hw => ?_|refine zzh fun _ => ?_|refine zzi fun _ _ => ?_|refine zzj (fun _ => ?_) fun _ => ?_)); (repeat' (refine CW_seq ?_; (repeat' (first|refine zza ?_|refine zc9 ?_|refine zzb fun w hw => ?_|refine zzh fun _ => ?_|refine zzi fun _ _ => ?_|refine zzj (fun _ => ?_) fun _ => ?_)))))
    exact ⟨rfl, hw.ent zent⟩
  · rw [kind_end (by omega)]
    ((repeat' (first|refine zza ?_|refine zc9 ?_|refine zzb fun w hw => ?_|refine zzh fun _ => ?_|refine zzi fun _ _ => ?_|refine zzj (fun _ => ?_) fun _ => ?_)); (repeat' (refine CW_seq ?_; (repeat' (first|refine zza ?_|refine zc9 ?_|refine zzb fun w hw => ?_|refine zzh fun _ => ?_|refine zzi fun _ _ => ?_|refine zzj (fun _ => ?_) fun _ => ?_)))))
    exact ⟨rfl, hw.ent zent⟩
set_option maxRecDepth 100000 in
theorem par_starts (b : Nat) (p : Option Addr) (c k d : Nat) (L : List Tok) (G : Rd) (w : World) (fp : List Nat) (hR : Row tokE 5 G p c L) (hk : k ≤ L.length) (hO : Own [prs b p L.length c k d] fp w) (hS : Rd.sub G fp w) :
    Calls Tryd.prog 38 #[.pointer (some ⟨b, 0, none⟩)] w fun e w' => e = .returned (.bool (startsT d (L.drop k))) ∧ Holds w fp (ro w fp G :: [prs b p L.length c k d]) w' := by
  refine enterR (args := [_]) hS hO Tryd.func38 rfl Tryd.ntmps38 (by simp) ?_
  clear hO hS
  ((repeat' (first|refine zza ?_|refine zc9 ?_|refine zzb fun w hw => ?_|refine zzh fun _ => ?_|refine zzi fun _ _ => ?_|refine zzj (fun _ => ?_) fun _ => ?_)); (repeat' (refine CW_seq ?_; (repeat' (first|refine zza ?_|refine zc9 ?_|refine zzb fun w hw => ?_|refine zzh fun _ => ?_|refine zzi fun _ _ => ?_|refine zzj (fun _ => ?_) fun _ => ?_)))))
  (apply WL_callU1 (h := prs b p L.length c k d); (first | exact .here | exact .there .here | exact .there (.there .here) | exact .there (.there (.there .here)) | exact .there (.there (.there (.there .here))) | exact .there (.there (.there (.there (.there .here)))) | exact .there (.there (.there (.there (.there (.there .here)))))); (first | exact .here | exact .there .here | exact .there (.there .here) | exact .there (.there (.there .here)) | exact .there (.there (.there (.there .here))) | exact .there (.there (.there (.there (.there .here)))) | exact .there (.there (.there (.there (.there (.there .here)))))); rfl; rfl; rfl; (intro W fp hO hS; exact par_kind b p c k d L G W fp hR hk hO hS))
  unfold startsT
  generalize kindT (L.drop k) = q
  by_cases h4 : q = 4
  · subst h4
    ((repeat' (first|refine zza ?_|refine zc9 ?_|refine zzb fun w hw => ?_|refine zzh fun _ => ?_|refine zzi fun _ _ => ?_|refine zzj (fun _ => ?_) fun _ => ?_)); (repeat' (refine CW_seq ?_; (repeat' (first|refine zza ?_|refine zc9 ?_|refine zzb fun w hw => ?_|refine zzh fun _ => ?_|refine zzi fun _ _ => ?_|refine zzj (fun _ => ?_) fun _ => ?_)))))
    exact ⟨rfl, hw.ent zent⟩
  by_cases h11 : q = 11
  · subst h11
    ((repeat' (first|refine zza ?_|refine zc9 ?_|refine zzb fun w hw => ?_|refine zzh fun _ => ?_|refine zzi fun _ _ => ?_|refine zzj (fun _ => ?_) fun _ => ?_)); (repeat' (refine CW_seq ?_; (repeat' (first|refine zza ?_|refine zc9 ?_|refine zzb fun w hw => ?_|refine zzh fun _ => ?_|refine zzi fun _ _ => ?_|refine zzj (fun _ => ?_) fun _ => ?_)))))
    exact ⟨rfl, hw.ent zent⟩
  by_cases h14 : q = 14
  · subst h14
    ((repeat' (first|refine zza ?_|refine zc9 ?_|refine zzb fun w hw => ?_|refine zzh fun _ => ?_|refine zzi fun _ _ => ?_|refine zzj (fun _ => ?_) fun _ => ?_)); (repeat' (refine CW_seq ?_; (repeat' (first|refine zza ?_|refine zc9 ?_|refine zzb fun w hw => ?_|refine zzh fun _ => ?_|refine zzi fun _ _ => ?_|refine zzj (fun _ => ?_) fun _ => ?_)))))
    exact ⟨rfl, hw.ent zent⟩
  by_cases h20 : q = 20
  · subst h20
    ((repeat' (first|refine zza ?_|refine zc9 ?_|refine zzb fun w hw => ?_|refine zzh fun _ => ?_|refine zzi fun _ _ => ?_|refine zzj (fun _ => ?_) fun _ => ?_)); (repeat' (refine CW_seq ?_; (repeat' (first|refine zza ?_|refine zc9 ?_|refine zzb fun w hw => ?_|refine zzh fun _ => ?_|refine zzi fun _ _ => ?_|refine zzj (fun _ => ?_) fun _ => ?_)))))
    exact ⟨by simp, hw.ent zent⟩
  · ((repeat' (first|refine zza ?_|refine zc9 ?_|refine zzb fun w hw => ?_|refine zzh fun _ => ?_|refine zzi fun _ _ => ?_|refine zzj (fun _ => ?_) fun _ => ?_)); (repeat' (refine CW_seq ?_; (repeat' (first|refine zza ?_|refine zc9 ?_|refine zzb fun w hw => ?_|refine zzh fun _ => ?_|refine zzi fun _ _ => ?_|refine zzj (fun _ => ?_) fun _ => ?_)))))
    exact ⟨by simp [h4, h11, h14, h20], hw.ent zent⟩
set_option maxRecDepth 100000 in
theorem par_need (b : Nat) (p : Option Addr) (c k d : Nat) (L : List Tok) (q : Int) (t : Tok) (G : Rd) (w : World) (fp : List Nat) (hR : Row tokE 5 G p c L) (ht : L[k]? = some t) (hq : t.kind = q) (hO : Own [prs b p L.length c k d] fp w) (hS : Rd.sub G fp w) :
    Calls Tryd.prog 50 #[.pointer (some ⟨b, 0, none⟩), .int .i64 q] w fun e w' => e = .returned (.agg (tokE t).toArray) ∧ Holds w fp (ro w fp G :: [prs b p L.length c (k + 1) d]) w' := by
  have hmax := hR.max
  unfold maxLen at hmax
  have hle := hR.le
  have hlt := (List.getElem?_eq_some_iff.1 ht).1
  have hkind := fun W fp (hO : Own [prs b p L.length c k d] fp W) (hS : Rd.sub G fp W) => par_kind b p c k d L G W fp hR (by omega) hO hS
  rw [kind_at ht, hq] at hkind
  refine enterR (args := [_, _]) hS hO Tryd.func50 rfl Tryd.ntmps50 (by simp) ?_
  clear hO hS
  ((repeat' (first|refine zza ?_|refine zc9 ?_|refine zzb fun w hw => ?_|refine zzh fun _ => ?_|refine zzi fun _ _ => ?_|refine zzj (fun _ => ?_) fun _ => ?_)); (repeat' (refine CW_seq ?_; (repeat' (first|refine zza ?_|refine zc9 ?_|refine zzb fun w hw => ?_|refine zzh fun _ => ?_|refine zzi fun _ _ => ?_|refine zzj (fun _ => ?_) fun _ => ?_)))))
  (apply WL_callU1 (h := prs b p L.length c k d); (first | exact .here | exact .there .here | exact .there (.there .here) | exact .there (.there (.there .here)) | exact .there (.there (.there (.there .here))) | exact .there (.there (.there (.there (.there .here)))) | exact .there (.there (.there (.there (.there (.there .here)))))); (first | exact .here | exact .there .here | exact .there (.there .here) | exact .there (.there (.there .here)) | exact .there (.there (.there (.there .here))) | exact .there (.there (.there (.there (.there .here)))) | exact .there (.there (.there (.there (.there (.there .here)))))); rfl; rfl; rfl; (intro W fp hO hS; exact hkind W fp hO hS))
  clear hkind
  ((repeat' (first|refine zza ?_|refine zc9 ?_|refine zzb fun w hw => ?_|refine zzh fun _ => ?_|refine zzi fun _ _ => ?_|refine zzj (fun _ => ?_) fun _ => ?_)); (repeat' (refine CW_seq ?_; (repeat' (first|refine zza ?_|refine zc9 ?_|refine zzb fun w hw => ?_|refine zzh fun _ => ?_|refine zzi fun _ _ => ?_|refine zzj (fun _ => ?_) fun _ => ?_)))))
  apply WB_alloc rfl rfl
  intro b3
  obtain ⟨kind, fn, num, text, at_⟩ := t
  dsimp only at hq
  subst hq
  dsimp only [tokE]
  ((repeat' (first|refine zza ?_|refine zc9 ?_|refine zzb fun w hw => ?_|refine zzh fun _ => ?_|refine zzi fun _ _ => ?_|refine zzj (fun _ => ?_) fun _ => ?_)); (repeat' (refine CW_seq ?_; (repeat' (first|refine zza ?_|refine zc9 ?_|refine zzb fun w hw => ?_|refine zzh fun _ => ?_|refine zzi fun _ _ => ?_|refine zzj (fun _ => ?_) fun _ => ?_)))))
  exact ⟨rfl, by
    have e : ((k + 1 : Nat) : Int) = (k : Int) + 1 := by omega
    unfold prs
    rw [e]
    exact hw.ent zent⟩
set_option maxRecDepth 100000 in
theorem par_needN (b : Nat) (p : Option Addr) (c k d : Nat) (L : List Tok) (q : Int) (G : Rd) (w : World) (fp : List Nat) (hR : Row tokE 5 G p c L) (hk : k ≤ L.length) (hq : kindT (L.drop k) ≠ q) (hO : Own [prs b p L.length c k d] fp w) (hS : Rd.sub G fp w) :
    Calls Tryd.prog 50 #[.pointer (some ⟨b, 0, none⟩), .int .i64 q] w fun e w' => e = .panicked (wrongP k) ∧ Holds w fp (ro w fp G :: [prs b p L.length c k d]) w' := by
  refine enterR (args := [_, _]) hS hO Tryd.func50 rfl Tryd.ntmps50 (by simp) ?_
  clear hO hS
  ((repeat' (first|refine zza ?_|refine zc9 ?_|refine zzb fun w hw => ?_|refine zzh fun _ => ?_|refine zzi fun _ _ => ?_|refine zzj (fun _ => ?_) fun _ => ?_)); (repeat' (refine CW_seq ?_; (repeat' (first|refine zza ?_|refine zc9 ?_|refine zzb fun w hw => ?_|refine zzh fun _ => ?_|refine zzi fun _ _ => ?_|refine zzj (fun _ => ?_) fun _ => ?_)))))
  (apply WL_callU1 (h := prs b p L.length c k d); (first | exact .here | exact .there .here | exact .there (.there .here) | exact .there (.there (.there .here)) | exact .there (.there (.there (.there .here))) | exact .there (.there (.there (.there (.there .here)))) | exact .there (.there (.there (.there (.there (.there .here)))))); (first | exact .here | exact .there .here | exact .there (.there .here) | exact .there (.there (.there .here)) | exact .there (.there (.there (.there .here))) | exact .there (.there (.there (.there (.there .here)))) | exact .there (.there (.there (.there (.there (.there .here)))))); rfl; rfl; rfl; (intro W fp hO hS; exact par_kind b p c k d L G W fp hR hk hO hS))
  ((repeat' (first|refine zza ?_|refine zc9 ?_|refine zzb fun w hw => ?_|refine zzh fun _ => ?_|refine zzi fun _ _ => ?_|refine zzj (fun _ => ?_) fun _ => ?_)); (repeat' (refine CW_seq ?_; (repeat' (first|refine zza ?_|refine zc9 ?_|refine zzb fun w hw => ?_|refine zzh fun _ => ?_|refine zzi fun _ _ => ?_|refine zzj (fun _ => ?_) fun _ => ?_)))))
  refine WL_callPm (m1 := [prs b p L.length c k d]) (M := [prs b p L.length c k d]) zent rfl rfl rfl (fun W fp hO hS => par_fail b p L.length c k d G W fp hO hS) ?_
  ((repeat' (first|refine zza ?_|refine zc9 ?_|refine zzb fun w hw => ?_|refine zzh fun _ => ?_|refine zzi fun _ _ => ?_|refine zzj (fun _ => ?_) fun _ => ?_)); (repeat' (refine CW_seq ?_; (repeat' (first|refine zza ?_|refine zc9 ?_|refine zzb fun w hw => ?_|refine zzh fun _ => ?_|refine zzi fun _ _ => ?_|refine zzj (fun _ => ?_) fun _ => ?_)))))
  exact ⟨rfl, hw.ent zent⟩
end Go.Proofs.YtanbifmcnkhdhaaDoor
