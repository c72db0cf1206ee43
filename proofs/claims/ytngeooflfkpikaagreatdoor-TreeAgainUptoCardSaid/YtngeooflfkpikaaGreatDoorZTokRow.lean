/-
  tree: the parser's next word: what kind it is of, that it must be of one; does a function stand here?
  Rows that are read: behind a call; a block of the call's own.
  An own slice that is only read from here on. Of no program.
-/
import Derived.Test.YtngeooflfkpikaaGreatDoorZGo
import Derived.Test.YtngeooflfkpikaaGreatDoorZRetC
import Derived.Test.YtngeooflfkpikaaGreatDoorZAnyL
import Derived.Test.YtngeooflfkpikaaGreatDoorZParseGood
import Derived.Test.YtngeooflfkpikaaGreatDoorZMeth
import Derived.Test.YtngeooflfkpikaaGreatDoorZRd
import Derived.Test.YtngeooflfkpikaaGreatDoorZRule
import Derived.Deep.Slices
namespace Go.Proofs.YtngeooflfkpikaaGreatDoor
open Go.RowKit
/-- the parser: the words, where it is, within how many functions -/
abbrev prs (b : Nat) (p : Option Addr) (n c : Nat) (k d : Nat) : HP := blk b 91 #[.slice p n c, .int .i64 (k : Int), .int .i64 (d : Int)]
theorem tdrop_cons {L : List Tok} {k : Nat} {t : Tok} (h : L[k]? = some t) : L.drop k = t :: L.drop (k + 1) := by
  obtain ⟨hl, rfl⟩ := List.getElem?_eq_some_iff.1 h
  exact List.drop_eq_getElem_cons hl
theorem kind_at {L : List Tok} {k : Nat} {t : Tok} (h : L[k]? = some t) : kindT (L.drop k) = t.kind := by rw [tdrop_cons h]; rfl
theorem kind_end {L : List Tok} {k : Nat} (h : L.length ≤ k) : kindT (L.drop k) = 0 := by rw [List.drop_eq_nil_of_le h]; rfl
theorem get_lt {L : List Tok} {k : Nat} (h : k < L.length) : ∃ t, L[k]? = some t := ⟨L[k], by simp [h]⟩
theorem lt_of_kind {L : List Tok} {k : Nat} {q : Int} (h : kindT (L.drop k) = q) (h0 : q ≠ 0) : k < L.length := by
  refine Nat.lt_of_not_le fun hle => h0 ?_
  rw [← h, kind_end hle]
theorem own_prs {b n c k d : Nat} {p : Option Addr} {w : World} {fp : List Nat} (h : Own [prs b p n c k d] fp w) : fp = [b] := by
  obtain ⟨f1, f2, rfl, ⟨rfl, _⟩, h2, _⟩ := h
  simp only [Own] at h2
  subst h2
  rfl
set_option maxRecDepth 100000 in
theorem par_fail (b : Nat) (p : Option Addr) (n c k d : Nat) (G : Rd) (w : World) (fp : List Nat) (hO : Own [prs b p n c k d] fp w) (hS : Rd.sub G fp w) :
    Calls Tryz.prog 33 #[.pointer (some ⟨b, 0, none⟩)] w fun e w' => e = .panicked (wrongP k) ∧ Holds w fp (ro w fp G :: [prs b p n c k d]) w' := by
  refine enterR (args := [_]) hS hO Tryz.func33 rfl Tryz.ntmps33 (by simp) ?_
  ((repeat' (first|refine zza ?_|refine zc9 ?_|refine zzb fun w hw => ?_|refine zzh fun _ => ?_|refine zzi fun _ _ => ?_|refine zzj (fun _ => ?_) fun _ => ?_)); (repeat' (refine CW_seq ?_; (repeat' (first|refine zza ?_|refine zc9 ?_|refine zzb fun w hw => ?_|refine zzh fun _ => ?_|refine zzi fun _ _ => ?_|refine zzj (fun _ => ?_) fun _ => ?_)))))
  exact ⟨rfl, hw.ent zent⟩
set_option maxRecDepth 100000 in
theorem par_kind (b : Nat) (p : Option Addr) (c k d : Nat) (L : List Tok) (G : Rd) (w : World) (fp : List Nat) (hR : Row tokE 5 G p c L) (hk : k ≤ L.length) (hO : Own [prs b p L.length c k d] fp w) (hS : Rd.sub G fp w) :
    Calls Tryz.prog 235 #[.pointer (some ⟨b, 0, none⟩)] w fun e w' => e = .returned (.int .i64 (kindT (L.drop k))) ∧ Holds w fp (ro w fp G :: [prs b p L.length c k d]) w' := by
  refine enterR (args := [_]) hS hO Tryz.func235 rfl Tryz.ntmps235 (by simp) ?_
  clear hO hS
  have hmax := hR.max
  unfold maxLen at hmax
  have hle := hR.le
  by_cases hlt : k < L.length
  · obtain ⟨t, ht⟩ := get_lt hlt
    rw [kind_at ht]
    ((repeat' (first|refine zza ?_|refine zc9 ?_|refine zzb fun w hw => ?_|refine zzh fun _ => ?_|refine zzi fun _ _ => ?_|refine zzj (fun _ => ?_) fun _ => ?_)); (repeat' (refine CW_seq ?_; (repeat' (first|refine zza ?_|refine zc9 ?_|refine zzb fun w hw => ?_|refine zzh fun _ => ?_|refine zzi fun _ _ => ?_|refine zzj (fun _ => ?_) fun _ => ?_)))))
    exact ⟨rfl, hw.ent zent⟩
  · rw [kind_end (by omega)]
    ((repeat' (first|refine zza ?_|refine zc9 ?_|refine zzb fun w hw => ?_|refine zzh fun _ => ?_|refine zzi fun _ _ => ?_|refine zzj (fun _ => ?_) fun _ => ?_)); (repeat' (refine CW_seq ?_; (repeat' (first|refine zza ?_|refine zc9 ?_|refine zzb fun w hw => ?_|refine zzh fun _ => ?_|refine zzi fun _ _ => ?_|refine zzj (fun _ => ?_) fun _ => ?_)))))
    exact ⟨rfl, hw.ent zent⟩
set_option maxRecDepth 100000 in
theorem par_starts (b : Nat) (p : Option Addr) (c k d : Nat) (L : List Tok) (G : Rd) (w : World) (fp : List Nat) (hR : Row tokE 5 G p c L) (hk : k ≤ L.length) (hO : Own [prs b p L.length c k d] fp w) (hS : Rd.sub G fp w) :
    Calls Tryz.prog 177 #[.pointer (some ⟨b, 0, none⟩)] w fun e w' => e = .returned (.bool (startsT d (L.drop k))) ∧ Holds w fp (ro w fp G :: [prs b p L.length c k d]) w' := by
  refine enterR (args := [_]) hS hO Tryz.func177 rfl Tryz.ntmps177 (by simp) ?_
  clear hO hS
  ((repeat' (first|refine zza ?_|refine zc9 ?_|refine zzb fun w hw => ?_|refine zzh fun _ => ?_|refine zzi fun _ _ => ?_|refine zzj (fun _ => ?_) fun _ => ?_)); (repeat' (refine CW_seq ?_; (repeat' (first|refine zza ?_|refine zc9 ?_|refine zzb fun w hw => ?_|refine zzh fun _ => ?_|refine zzi fun _ _ => ?_|refine zzj (fun _ => ?_) fun _ => ?_)))))
  (apply WL_callU1 (h := prs b p L.length c k d); (first | exact .here | exact .there .here | exact .there (.there .here) | exact .there (.there (.there .here)) | exact .there (.there (.there (.there .here))) | exact .there (.there (.there (.there (.there .here)))) | exact .there (.there (.there (.there (.there (.there .here)))))); (first | exact .here | exact .there .here | exact .there (.there .here) | exact .there (.there (.there .here)) | exact .there (.there (.there (.there .here))) | exact .there (.there (.there (.there (.there .here)))) | exact .there (.there (.there (.there (.there (.there .here)))))); rfl; rfl; rfl; (intro W fp hO hS; exact par_kind b p c k d L G W fp hR hk hO hS))
  unfold startsT
  generalize kindT (L.drop k) = q
  by_cases h4 : q = 4
  · subst h4
    ((repeat' (first|refine zza ?_|refine zc9 ?_|refine zzb fun w hw => ?_|refine zzh fun _ => ?_|refine zzi fun _ _ => ?_|refine zzj (fun _ => ?_) fun _ => ?_)); (repeat' (refine CW_seq ?_; (repeat' (first|refine zza ?_|refine zc9 ?_|refine zzb fun w hw => ?_|refine zzh fun _ => ?_|refine zzi fun _ _ => ?_|refine zzj (fun _ => ?_) fun _ => ?_)))))
    exact ⟨rfl, hw.ent zent⟩
  by_cases h11 : q = 11
  · subst h11
    ((repeat' (first|refine zza ?_|refine zc9 ?_|refine zzb fun w hw => ?_|refine zzh fun _ => ?_|refine zzi fun _ _ => ?_|refine zzj (fun _ => ?_) fun _ => ?_)); (repeat' (refine CW_seq ?_; (repeat' (first|refine zza ?_|refine zc9 ?_|refine zzb fun w hw => ?_|refine zzh fun _ => ?_|refine zzi fun _ _ => ?_|refine zzj (fun _ => ?_) fun _ => ?_)))))
    exact ⟨rfl, hw.ent zent⟩
  by_cases h14 : q = 14
  · subst h14
    ((repeat' (first|refine zza ?_|refine zc9 ?_|refine zzb fun w hw => ?_|refine zzh fun _ => ?_|refine zzi fun _ _ => ?_|refine zzj (fun _ => ?_) fun _ => ?_)); (repeat' (refine CW_seq ?_; (repeat' (first|refine zza ?_|refine zc9 ?_|refine zzb fun w hw => ?_|refine zzh fun _ => ?_|refine zzi fun _ _ => ?_|refine zzj (fun _ => ?_) fun _ => ?_)))))
    exact ⟨rfl, hw.ent zent⟩
  by_cases h20 : q = 20
  · subst h20
    ((repeat' (first|refine zza ?_|refine zc9 ?_|refine zzb fun w hw => ?_|refine zzh fun _ => ?_|refine zzi fun _ _ => ?_|refine zzj (fun _ => ?_) fun _ => ?_)); (repeat' (refine CW_seq ?_; (repeat' (first|refine zza ?_|refine zc9 ?_|refine zzb fun w hw => ?_|refine zzh fun _ => ?_|refine zzi fun _ _ => ?_|refine zzj (fun _ => ?_) fun _ => ?_)))))
    exact ⟨by simp, hw.ent zent⟩
  · ((repeat' (first|refine zza ?_|refine zc9 ?_|refine zzb fun w hw => ?_|refine zzh fun _ => ?_|refine zzi fun _ _ => ?_|refine zzj (fun _ => ?_) fun _ => ?_)); (repeat' (refine CW_seq ?_; (repeat' (first|refine zza ?_|refine zc9 ?_|refine zzb fun w hw => ?_|refine zzh fun _ => ?_|refine zzi fun _ _ => ?_|refine zzj (fun _ => ?_) fun _ => ?_)))))
    exact ⟨by simp [h4, h11, h14, h20], hw.ent zent⟩
set_option maxRecDepth 100000 in
theorem par_need (b : Nat) (p : Option Addr) (c k d : Nat) (L : List Tok) (q : Int) (t : Tok) (G : Rd) (w : World) (fp : List Nat) (hR : Row tokE 5 G p c L) (ht : L[k]? = some t) (hq : t.kind = q) (hO : Own [prs b p L.length c k d] fp w) (hS : Rd.sub G fp w) :
    Calls Tryz.prog 236 #[.pointer (some ⟨b, 0, none⟩), .int .i64 q] w fun e w' => e = .returned (.agg (tokE t).toArray) ∧ Holds w fp (ro w fp G :: [prs b p L.length c (k + 1) d]) w' := by
  have hmax := hR.max
  unfold maxLen at hmax
  have hle := hR.le
  have hlt := (List.getElem?_eq_some_iff.1 ht).1
  have hkind := fun W fp (hO : Own [prs b p L.length c k d] fp W) (hS : Rd.sub G fp W) => par_kind b p c k d L G W fp hR (by omega) hO hS
  rw [kind_at ht, hq] at hkind
  refine enterR (args := [_, _]) hS hO Tryz.func236 rfl Tryz.ntmps236 (by simp) ?_
  clear hO hS
  ((repeat' (first|refine zza ?_|refine zc9 ?_|refine zzb fun w hw => ?_|refine zzh fun _ => ?_|refine zzi fun _ _ => ?_|refine zzj (fun _ => ?_) fun _ => ?_)); (repeat' (refine CW_seq ?_; (repeat' (first|refine zza ?_|refine zc9 ?_|refine zzb fun w hw => ?_|refine zzh fun _ => ?_|refine zzi fun _ _ => ?_|refine zzj (fun _ => ?_) fun _ => ?_)))))
  (apply WL_callU1 (h := prs b p L.length c k d); (first | exact .here | exact .there .here | exact .there (.there .here) | exact .there (.there (.there .here)) | exact .there (.there (.there (.there .here))) | exact .there (.there (.there (.there (.there .here)))) | exact .there (.there (.there (.there (.there (.there .here)))))); (first | exact .here | exact .there .here | exact .there (.there .here) | exact .there (.there (.there .here)) | exact .there (.there (.there (.there .here))) | exact .there (.there (.there (.there (.there .here)))) | exact .there (.there (.there (.there (.there (.there .here)))))); rfl; rfl; rfl; (intro W fp hO hS; exact hkind W fp hO hS))
  clear hkind
  ((repeat' (first|refine zza ?_|refine zc9 ?_|refine zzb fun w hw => ?_|refine zzh fun _ => ?_|refine zzi fun _ _ => ?_|refine zzj (fun _ => ?_) fun _ => ?_)); (repeat' (refine CW_seq ?_; (repeat' (first|refine zza ?_|refine zc9 ?_|refine zzb fun w hw => ?_|refine zzh fun _ => ?_|refine zzi fun _ _ => ?_|refine zzj (fun _ => ?_) fun _ => ?_)))))
  apply WB_alloc rfl rfl
  intro b3
  obtain ⟨kind, fn, num, text, at_⟩ := t
  dsimp only at hq
  subst hq
  dsimp only [tokE]
  ((repeat' (first|refine zza ?_|refine zc9 ?_|refine zzb fun w hw => ?_|refine zzh fun _ => ?_|refine zzi fun _ _ => ?_|refine zzj (fun _ => ?_) fun _ => ?_)); (repeat' (refine CW_seq ?_; (repeat' (first|refine zza ?_|refine zc9 ?_|refine zzb fun w hw => ?_|refine zzh fun _ => ?_|refine zzi fun _ _ => ?_|refine zzj (fun _ => ?_) fun _ => ?_)))))
  exact ⟨rfl, by
    have e : ((k + 1 : Nat) : Int) = (k : Int) + 1 := by omega
    unfold prs
    rw [e]
    exact hw.ent zent⟩
set_option maxRecDepth 100000 in
theorem par_needN (b : Nat) (p : Option Addr) (c k d : Nat) (L : List Tok) (q : Int) (G : Rd) (w : World) (fp : List Nat) (hR : Row tokE 5 G p c L) (hk : k ≤ L.length) (hq : kindT (L.drop k) ≠ q) (hO : Own [prs b p L.length c k d] fp w) (hS : Rd.sub G fp w) :
    Calls Tryz.prog 236 #[.pointer (some ⟨b, 0, none⟩), .int .i64 q] w fun e w' => e = .panicked (wrongP k) ∧ Holds w fp (ro w fp G :: [prs b p L.length c k d]) w' := by
  refine enterR (args := [_, _]) hS hO Tryz.func236 rfl Tryz.ntmps236 (by simp) ?_
  clear hO hS
  ((repeat' (first|refine zza ?_|refine zc9 ?_|refine zzb fun w hw => ?_|refine zzh fun _ => ?_|refine zzi fun _ _ => ?_|refine zzj (fun _ => ?_) fun _ => ?_)); (repeat' (refine CW_seq ?_; (repeat' (first|refine zza ?_|refine zc9 ?_|refine zzb fun w hw => ?_|refine zzh fun _ => ?_|refine zzi fun _ _ => ?_|refine zzj (fun _ => ?_) fun _ => ?_)))))
  (apply WL_callU1 (h := prs b p L.length c k d); (first | exact .here | exact .there .here | exact .there (.there .here) | exact .there (.there (.there .here)) | exact .there (.there (.there (.there .here))) | exact .there (.there (.there (.there (.there .here)))) | exact .there (.there (.there (.there (.there (.there .here)))))); (first | exact .here | exact .there .here | exact .there (.there .here) | exact .there (.there (.there .here)) | exact .there (.there (.there (.there .here))) | exact .there (.there (.there (.there (.there .here)))) | exact .there (.there (.there (.there (.there (.there .here)))))); rfl; rfl; rfl; (intro W fp hO hS; exact par_kind b p c k d L G W fp hR hk hO hS))
  ((repeat' (first|refine zza ?_|refine zc9 ?_|refine zzb fun w hw => ?_|refine zzh fun _ => ?_|refine zzi fun _ _ => ?_|refine zzj (fun _ => ?_) fun _ => ?_)); (repeat' (refine CW_seq ?_; (repeat' (first|refine zza ?_|refine zc9 ?_|refine zzb fun w hw => ?_|refine zzh fun _ => ?_|refine zzi fun _ _ => ?_|refine zzj (fun _ => ?_) fun _ => ?_)))))
  refine WL_callPm (m1 := [prs b p L.length c k d]) (M := [prs b p L.length c k d]) zent rfl rfl rfl (fun W fp hO hS => par_fail b p L.length c k d G W fp hO hS) ?_
  ((repeat' (first|refine zza ?_|refine zc9 ?_|refine zzb fun w hw => ?_|refine zzh fun _ => ?_|refine zzi fun _ _ => ?_|refine zzj (fun _ => ?_) fun _ => ?_)); (repeat' (refine CW_seq ?_; (repeat' (first|refine zza ?_|refine zc9 ?_|refine zzb fun w hw => ?_|refine zzh fun _ => ?_|refine zzi fun _ _ => ?_|refine zzj (fun _ => ?_) fun _ => ?_)))))
  exact ⟨rfl, hw.ent zent⟩
end Go.Proofs.YtngeooflfkpikaaGreatDoor
namespace Go.Proofs.YtngeooflfkpikaaGreatDoor
open Go.RowKit
theorem Row.below {α : Type} {enc : α → List Value} {sz : Nat} {w w' : World} {p : Option Addr} {c : Nat} {xs : List α} (h : Row enc sz w.cell? p c xs) (hb : Below w.heap.size w w') : Row enc sz w'.cell? p c xs := h.mono fun a v e => by
  rw [World.cell?_of_block (hb.block _ (cell_lt e))]; exact e
/-- a block that holds cells of a row -/
theorem row_blk {α : Type} {enc : α → List Value} {sz : Nat} {w0 w : World} {F : List Nat} {m r : List HP} {b : Nat} {T : TypeId} {xs : List α} (hh : Holds w0 F m w) (hp : Pick m (blk b T (xs.flatMap enc).toArray) r) (hs : ∀ x, (enc x).length = sz) (hm : xs.length ≤ 1099511627776) : Row enc sz w.cell? (some ⟨b, 0, none⟩) xs.length xs := by
  have hb := hh.blk hp
  refine ⟨Nat.le_refl _, by unfold maxLen; omega, fun _ => rfl, fun i x hx j v hv => ?_⟩
  have e : (addrAt (some ⟨b, 0, none⟩) (i * sz)).add j = ⟨b, i * sz + j, none⟩ := by
    unfold addrAt
    show ((⟨b, 0, none⟩ : Addr).add (i * sz)).add j = _
    rw [Go.Deep.add_add]
    unfold Addr.add
    split <;> simp_all
  rw [e]
  simp only [World.cell?, hb]
  have hj : j < sz := by rw [← hs x]; exact (List.getElem?_eq_some_iff.1 hv).1
  have key : ∀ (l : List α) (i : Nat), l[i]? = some x → (l.flatMap enc)[i * sz + j]? = some v := by
    intro l
    induction l with
    | nil => intro i h; simp at h
    | cons y l ih =>
      intro i h
      rw [List.flatMap_cons]
      cases i with
      | zero =>
        simp at h; subst h
        rw [Nat.zero_mul, Nat.zero_add, List.getElem?_append_left (by rw [hs]; exact hj)]; exact hv
      | succ i =>
        rw [List.getElem?_append_right (by rw [hs, Nat.succ_mul]; omega), hs, show (i + 1) * sz + j - sz = i * sz + j by rw [Nat.succ_mul]; omega]
        exact ih i (by simpa using h)
  simpa using key xs i hx
theorem flat_get {α : Type} {enc : α → List Value} {sz j : Nat} {x : α} {v : Value} (hs : ∀ x, (enc x).length = sz) (hv : (enc x)[j]? = some v) : ∀ (l : List α) (i : Nat), l[i]? = some x → (l.flatMap enc)[i * sz + j]? = some v := by
  have hj : j < sz := by rw [← hs x]; exact (List.getElem?_eq_some_iff.1 hv).1
  intro l
  induction l with
  | nil => intro i h; simp at h
  | cons y l ih =>
    intro i h
    rw [List.flatMap_cons]
    cases i with
    | zero =>
      simp at h; subst h
      rw [Nat.zero_mul, Nat.zero_add, List.getElem?_append_left (by rw [hs]; exact hj)]; exact hv
    | succ i =>
      rw [List.getElem?_append_right (by rw [hs, Nat.add_mul]; omega), hs]
      rw [show (i + 1) * sz + j - sz = i * sz + j by rw [Nat.add_mul]; omega]
      exact ih i (by simpa using h)
theorem flat_len {α : Type} {enc : α → List Value} {sz : Nat} (hs : ∀ x, (enc x).length = sz) : ∀ l : List α, (l.flatMap enc).length = l.length * sz
  | [] => by simp
  | x :: l => by rw [List.flatMap_cons, List.length_append, hs, flat_len hs l, List.length_cons, Nat.add_mul]; omega
/-- a slice of the call's own, as a row to be read -/
theorem row_sl {α : Type} {enc : α → List Value} {sz : Nat} (hs : ∀ x, (enc x).length = sz) (h0 : 0 < sz) {w0 w : World} {F : List Nat} {m r : List HP} {e : TypeId} {n c : Nat} {p : Option Addr} {xs : List α} (hh : Holds w0 F m w) (hp : Pick m (sl e sz p n c (xs.flatMap enc)) r) :
    n = xs.length ∧ Row enc sz w.cell? p c xs := by
  have h := hh.slR hp
  have hn : n = xs.length := by
    have := h.1
    rw [flat_len hs] at this
    exact (Nat.eq_of_mul_eq_mul_right h0 this).symm
  refine ⟨hn, ?_⟩
  rcases h.2 with ⟨hv, h00⟩ | ⟨g, cap, cur, hv, _, hg, hnc, hcm, hcs, ht⟩
  · simp only [Value.slice.injEq] at hv
    obtain ⟨rfl, _, rfl⟩ := hv
    have : xs = [] := List.eq_nil_of_length_eq_zero (by omega)
    subst this
    exact Row.nil _ _ _
  · simp only [Value.slice.injEq] at hv
    obtain ⟨rfl, _, rfl⟩ := hv
    refine ⟨by omega, hcm, fun _ => rfl, fun i x hx j v hv => ?_⟩
    have h1 := h.cells (g := g) rfl (i * sz + j) v (flat_get hs hv xs i hx)
    unfold addrAt
    show w.cell? (((⟨g, 0, none⟩ : Addr).add (i * sz)).add j) = some v
    rw [Go.Deep.add_add]
    exact h1
end Go.Proofs.YtngeooflfkpikaaGreatDoor
namespace Go.Proofs.YtngeooflfkpikaaGreatDoor
open Go.RowKit
theorem addr_block (g i j : Nat) : ((addrAt (some ⟨g, 0, none⟩) i).add j).block = g := by
  unfold addrAt
  show (((⟨g, 0, none⟩ : Addr).add i).add j).block = g
  rw [Go.Deep.add_add]
  unfold Addr.add
  split <;> rfl
/-- an own slice is only read from here on -/
theorem Holds.toRo {α : Type} {enc : α → List Value} {sz : Nat} (hs : ∀ x, (enc x).length = sz) (h0 : 0 < sz) {w0 w : World} {F : List Nat} {G : Rd} {e : TypeId} {n c : Nat} {p : Option Addr} {xs : List α} {r : List HP}
    (hh : Holds w0 F (ro w0 F G :: sl e sz p n c (xs.flatMap enc) :: r) w) (hF : ∀ fp, Own r fp w → ∀ i ∈ F, i ∈ fp) :
    ∃ G', Rd.grow w0 G G' ∧ Row enc sz G' p c xs ∧ Holds w0 F (ro w0 F G' :: r) w := by
  have hrow := (row_sl hs h0 hh (.there .here)).2
  have hF0 : ∀ fp, (sl e sz p n c (xs.flatMap enc)).p w fp → ∀ i ∈ fp, w0.heap.size ≤ i := by
    rintro fp ⟨rfl, _⟩ i hi
    obtain ⟨fp0, ⟨fG, f12, rfl, hG, ⟨f1, f2, rfl, ⟨hf1, _⟩, h2, hd2⟩, hd⟩, hFF⟩ := hh.own
    refine Nat.le_of_not_lt fun hlt => ?_
    have hi1 : i ∈ f1 := by rw [hf1]; exact hi
    exact hd2 i hi1 (hF _ h2 i (hFF i (by simp [hi1]) hlt))
  obtain ⟨fp, ⟨hfp, hown⟩, hb, hn, hsp⟩ := hh.freeze hF0
  refine ⟨fun a => if a.block ∈ fp then w.cell? a else G a, ⟨fun a v ea => ?_, fun a v ea => ?_⟩, ⟨hrow.le, hrow.max, hrow.some', fun i x hx j v hv => ?_⟩, hsp _ fun a v ea => ?_⟩
  · show (if a.block ∈ fp then _ else _) = _
    rw [if_neg (hn a v ea)]; exact ea
  · by_cases h : a.block ∈ fp
    · exact .inr (hb _ h).1
    · simp only [if_neg h] at ea; exact .inl ea
  · have hc := hrow.cell i x hx j v hv
    have hblk : ((addrAt p (i * sz)).add j).block ∈ fp := by
      rcases hown.2 with ⟨hv', h00⟩ | ⟨g, cap, cur, hv', _⟩
      · have hn' : n = xs.length := (row_sl hs h0 hh (.there .here)).1
        have : xs = [] := List.eq_nil_of_length_eq_zero (by omega)
        subst this
        simp at hx
      · simp only [Value.slice.injEq] at hv'
        obtain ⟨rfl, _, rfl⟩ := hv'
        rw [addr_block, hfp]
        simp [blkOf]
    show (if _ ∈ fp then _ else _) = _
    rw [if_pos hblk]; exact hc
  · by_cases h : a.block ∈ fp
    · simp only [if_pos h] at ea; exact .inr ⟨h, ea⟩
    · simp only [if_neg h] at ea; exact .inl ea
end Go.Proofs.YtngeooflfkpikaaGreatDoor
