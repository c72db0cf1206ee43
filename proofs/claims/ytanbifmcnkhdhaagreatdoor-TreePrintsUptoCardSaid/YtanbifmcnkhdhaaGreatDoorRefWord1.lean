/-
  ravelinref3: Words1, acted: the words of an expression.
-/
import Derived.Test.YtanbifmcnkhdhaaGreatDoorGo
import Derived.Test.YtanbifmcnkhdhaaGreatDoorRefPrint
import Derived.Test.YtanbifmcnkhdhaaGreatDoorTreeEx
import Derived.Test.YtanbifmcnkhdhaaGreatDoorRetC
namespace Go.Proofs.YtanbifmcnkhdhaaGreatDoor
open Go.RowKit

abbrev wrdV (us : List Tok) (k : Nat) (x : Option Addr × Nat) : Value := .tuple #[.slice x.1 us.length x.2, .int .i64 (k : Int)]
abbrev rsl (q : Option Addr) (n c : Nat) (ts : List Tok) : HP := sl 30 5 q n c (ts.flatMap tokE)
theorem rsl_snoc (xs : List Tok) (x : Tok) : (xs ++ [x]).flatMap tokE = xs.flatMap tokE ++ tokE x := by simp
/-- the contract of the words of an expression -/
def WordsC (e : Ex) : Prop := ∀ (p : Option Addr) (c : Nat) (L : List NodM) (k d : Nat) (rest : List Nod) (G : Rd) (W : World), e.ok d → (L.map NodM.nod).drop k = e.flat ++ rest → L.length ≤ 400 → e.toks.length ≤ 700000000 → Row nodE 7 G p c L → (∀ x ∈ L, NodG G x) → Rd.sub G [] W →
  Calls Tryz.prog 33 #[.slice p L.length c, .int .i64 (k : Nat)] W (Tells (wrdV e.toks (k + e.flat.length)) (TokR e.toks) G W)
theorem drop_cons_at {L : List NodM} {k : Nat} {n : Nod} {r : List Nod} (h : (L.map NodM.nod).drop k = n :: r) : ∃ x, L[k]? = some x ∧ x.nod = n ∧ k < L.length ∧ (L.map NodM.nod).drop (k + 1) = r := by
  have hk : k < (L.map NodM.nod).length := by
    rcases Nat.lt_or_ge k (L.map NodM.nod).length with h' | h'
    · exact h'
    · rw [List.drop_eq_nil_of_le h'] at h; cases h
  have hk' : k < L.length := by simpa using hk
  have h2 := List.drop_eq_getElem_cons hk
  rw [h] at h2
  injection h2 with h3 h4
  refine ⟨L[k], by simp [hk'], ?_, hk', h4.symm⟩
  rw [h3, List.getElem_map]
theorem drop_app_at {l a r : List Nod} {k : Nat} (h : l.drop k = a ++ r) : l.drop (k + a.length) = r := by
  rw [← List.drop_drop, h, List.drop_left]
abbrev ndB (b : Nat) (op aop af ag n : Int) (nums : SlV Int) (text : List UInt8) : HP := blk b 35 #[.int .i64 op, .int .i64 aop, .int .i64 af, .int .i64 ag, .int .i64 n, .slice nums.p nums.xs.length nums.c, .string ⟨text.toArray⟩]
noncomputable abbrev wcode : Code := (Tryz.f33.body).getD .skip
/-- what is left to show where the node has been read -/
def WRest (us : List Tok) (k2 : Nat) (p : Option Addr) (c : Nat) (L : List NodM) (k : Nat) (G : Rd) (W : World) (op aop af ag n : Int) (nums : SlV Int) (text : List UInt8) : Prop := ∀ b, CW Tryz.prog ⟨181, [], W, []⟩ (QBody Tryz.prog Tryz.f33 (Tells (wrdV us k2) (TokR us) G W)) (cP [1, 1] wcode) [(0, .slice p L.length c), (1, .int .i64 (k : Nat)), (6, .pointer (some ⟨b, 0, none⟩)), (5, .int .i64 0), (4, .slice none 0 0)]
  [ndB b op aop af ag n nums text, ro W [] G]
set_option maxHeartbeats 8000000 in
set_option maxRecDepth 100000 in
theorem words_enter {us : List Tok} {k2 : Nat} {p : Option Addr} {c : Nat} {L : List NodM} {k : Nat} {G : Rd} {W : World} {op aop af ag n : Int} {nums : SlV Int} {text : List UInt8} (hx : L[k]? = some ⟨op, aop, af, ag, n, nums, text⟩) (_hL : L.length ≤ 400) (hR : Row nodE 7 G p c L) (hS : Rd.sub G [] W) (h : WRest us k2 p c L k G W op aop af ag n nums text) :
    Calls Tryz.prog 33 #[.slice p L.length c, .int .i64 (k : Nat)] W (Tells (wrdV us k2) (TokR us) G W) := by
  have hk : k < L.length := (List.getElem?_eq_some_iff.1 hx).1
  refine enterR (args := [_, _]) (m := []) (F := []) hS rfl Tryz.func33 rfl Tryz.ntmps33 (by simp) ?_
  repeat' (first | exact CW_cov zcov (CW_ent (Ent.consK (k := Ent.cons .here Ent.nil) .here) (h _)) | refine zza ?_ | refine zzh fun _ => ?_)
set_option maxHeartbeats 8000000 in
set_option maxRecDepth 100000 in
theorem words_nums (p : Option Addr) (c : Nat) (L : List NodM) (k : Nat) (G : Rd) (W : World) (aop af ag n : Int) (nums : SlV Int) (text : List UInt8) (hk : k < 400) (ht : nums.xs.length ≤ 700000000) (hnr : Row encI 1 G nums.p nums.c nums.xs) :
    WRest (nums.xs.map fun x => (⟨1, 0, x, [], 0⟩ : Tok)) (k + 1) p c L k G W 1 aop af ag n nums text := by
  intro b
  conv =>
    pattern cP _ _
    whnf
  ((repeat' (first|refine zza ?_|refine zc9 ?_|refine zzb fun w hw => ?_|refine zzh fun _ => ?_|refine zzi fun _ _ => ?_|refine zzj (fun _ => ?_) fun _ => ?_)); (repeat' (refine CW_seq ?_; (repeat' (first|refine zza ?_|refine zc9 ?_|refine zzb fun w hw => ?_|refine zzh fun _ => ?_|refine zzi fun _ _ => ?_|refine zzj (fun _ => ?_) fun _ => ?_)))))
  refine CW_loopK [(0,_),(1,_),(6,_)] zcov (fun x : Nat × (Option Addr × Nat) => [(8, .int .i64 (x.1 : Int)), (7, .slice x.2.1 x.1 x.2.2)]) (fun x => [ndB b 1 aop af ag n nums text, ro W [] G, rsl x.2.1 x.1 x.2.2 ((nums.xs.take x.1).map fun x => (⟨1, 0, x, [], 0⟩ : Tok))]) (fun x => x.1 ≤ nums.xs.length) (fun x => nums.xs.length - x.1) (0, none, 0) (Nat.zero_le _) zcov (Ent.cons .here (Ent.cons .here (Ent.nilown Ent.nil))) ?_
  rintro ⟨i, q, cq⟩ hi
  dsimp only at hi ⊢
  by_cases hlt : i < nums.xs.length
  · obtain ⟨u, hu⟩ : ∃ u, nums.xs[i]? = some u := ⟨nums.xs[i], by simp [hlt]⟩
    have e1 : (nums.xs.take (i + 1)).map (fun x => (⟨1, 0, x, [], 0⟩ : Tok)) = (nums.xs.take i).map (fun x => (⟨1, 0, x, [], 0⟩ : Tok)) ++ [⟨1, 0, u, [], 0⟩] := by
      rw [List.take_add_one, hu]; simp
    generalize (nums.xs.take i).map (fun x => (⟨1, 0, x, [], 0⟩ : Tok)) = T at e1 ⊢
    ((repeat' (first|refine zza ?_|refine zc9 ?_|refine zzb fun w hw => ?_|refine zzh fun _ => ?_|refine zzi fun _ _ => ?_|refine zzj (fun _ => ?_) fun _ => ?_)); (repeat' (refine CW_seq ?_; (repeat' (first|refine zza ?_|refine zc9 ?_|refine zzb fun w hw => ?_|refine zzh fun _ => ?_|refine zzi fun _ _ => ?_|refine zzj (fun _ => ?_) fun _ => ?_)))))
    refine WL_op rfl rfl (y_load rfl (rd_row (enc := encI) hnr zpk hu)) ?_
    ((repeat' (first|refine zza ?_|refine zc9 ?_|refine zzb fun w hw => ?_|refine zzh fun _ => ?_|refine zzi fun _ _ => ?_|refine zzj (fun _ => ?_) fun _ => ?_)); (repeat' (refine CW_seq ?_; (repeat' (first|refine zza ?_|refine zc9 ?_|refine zzb fun w hw => ?_|refine zzh fun _ => ?_|refine zzi fun _ _ => ?_|refine zzj (fun _ => ?_) fun _ => ?_)))))
    rename_i b3 q' c2
    refine EX_loop' (i + 1, q', c2) ⟨zcov, ?_, by dsimp only; omega, by dsimp only; omega⟩
    dsimp only
    rw [e1]
    dsimp only [rsl]
    rw [rsl_snoc]
    exact zent
  · have hil : i = nums.xs.length := by omega
    subst hil
    rw [List.take_length]
    clear hlt hnr
    have hTl : (nums.xs.map fun x => (⟨1, 0, x, [], 0⟩ : Tok)).length = nums.xs.length := List.length_map _
    rw [← hTl] at ht ⊢
    generalize (nums.xs.map fun x => (⟨1, 0, x, [], 0⟩ : Tok)) = T at *
    ((repeat' (first|refine zza ?_|refine zc9 ?_|refine zzb fun w hw => ?_|refine zzh fun _ => ?_|refine zzi fun _ _ => ?_|refine zzj (fun _ => ?_) fun _ => ?_)); (repeat' (refine CW_seq ?_; (repeat' (first|refine zza ?_|refine zc9 ?_|refine zzb fun w hw => ?_|refine zzh fun _ => ?_|refine zzi fun _ _ => ?_|refine zzj (fun _ => ?_) fun _ => ?_)))))
    exact Tells.sl (enc := tokE) (sz := 5) (V := wrdV T (k + 1)) (fun _ => rfl) (by decide) (q, cq) (Rd.grow_refl _ _) (hw.ent (Ent.cons (.there .here) (Ent.cons (.there .here) Ent.nil))) (fun G' _ h => h)
set_option maxHeartbeats 8000000 in
set_option maxRecDepth 100000 in
theorem words_text (p : Option Addr) (c : Nat) (L : List NodM) (k : Nat) (G : Rd) (W : World) (aop af ag n : Int) (nums : SlV Int) (text : List UInt8) (hk : k < 400) :
    WRest [⟨2, 0, 0, text, 0⟩] (k + 1) p c L k G W 2 aop af ag n nums text := by
  intro b
  conv =>
    pattern cP _ _
    whnf
  ((repeat' (first|refine zza ?_|refine zc9 ?_|refine zzb fun w hw => ?_|refine zzh fun _ => ?_|refine zzi fun _ _ => ?_|refine zzj (fun _ => ?_) fun _ => ?_)); (repeat' (refine CW_seq ?_; (repeat' (first|refine zza ?_|refine zc9 ?_|refine zzb fun w hw => ?_|refine zzh fun _ => ?_|refine zzi fun _ _ => ?_|refine zzj (fun _ => ?_) fun _ => ?_)))))
  rename_i b2
  exact Tells.sl (enc := tokE) (sz := 5) (V := wrdV [⟨2, 0, 0, text, 0⟩] (k + 1)) (fun _ => rfl) (by decide) (some ⟨b2, 0, none⟩, 1) (Rd.grow_refl _ _) (hw.ent (Ent.cons (.there (.there .here)) (Ent.blkSlN (n := 1) (sz := 5) (xs := [(⟨2, 0, 0, text, 0⟩ : Tok)].flatMap tokE) .here (by kernel_rfl) rfl (by decide) Ent.nil))) (fun G' _ h => h)
set_option maxHeartbeats 8000000 in
set_option maxRecDepth 100000 in
theorem words_name (p : Option Addr) (c : Nat) (L : List NodM) (k : Nat) (G : Rd) (W : World) (aop af ag n : Int) (nums : SlV Int) (text : List UInt8) (hk : k < 400) :
    WRest [⟨3, 0, 0, text, 0⟩] (k + 1) p c L k G W 3 aop af ag n nums text := by
  intro b
  conv =>
    pattern cP _ _
    whnf
  ((repeat' (first|refine zza ?_|refine zc9 ?_|refine zzb fun w hw => ?_|refine zzh fun _ => ?_|refine zzi fun _ _ => ?_|refine zzj (fun _ => ?_) fun _ => ?_)); (repeat' (refine CW_seq ?_; (repeat' (first|refine zza ?_|refine zc9 ?_|refine zzb fun w hw => ?_|refine zzh fun _ => ?_|refine zzi fun _ _ => ?_|refine zzj (fun _ => ?_) fun _ => ?_)))))
  rename_i b2
  exact Tells.sl (enc := tokE) (sz := 5) (V := wrdV [⟨3, 0, 0, text, 0⟩] (k + 1)) (fun _ => rfl) (by decide) (some ⟨b2, 0, none⟩, 1) (Rd.grow_refl _ _) (hw.ent (Ent.cons (.there (.there .here)) (Ent.blkSlN (n := 1) (sz := 5) (xs := [(⟨3, 0, 0, text, 0⟩ : Tok)].flatMap tokE) .here (by kernel_rfl) rfl (by decide) Ent.nil))) (fun G' _ h => h)
set_option maxHeartbeats 8000000 in
set_option maxRecDepth 100000 in
theorem words_alpha (p : Option Addr) (c : Nat) (L : List NodM) (k : Nat) (G : Rd) (W : World) (aop af ag n : Int) (nums : SlV Int) (text : List UInt8) (hk : k < 400) :
    WRest [tokK 18] (k + 1) p c L k G W 4 aop af ag n nums text := by
  intro b
  conv =>
    pattern cP _ _
    whnf
  ((repeat' (first|refine zza ?_|refine zc9 ?_|refine zzb fun w hw => ?_|refine zzh fun _ => ?_|refine zzi fun _ _ => ?_|refine zzj (fun _ => ?_) fun _ => ?_)); (repeat' (refine CW_seq ?_; (repeat' (first|refine zza ?_|refine zc9 ?_|refine zzb fun w hw => ?_|refine zzh fun _ => ?_|refine zzi fun _ _ => ?_|refine zzj (fun _ => ?_) fun _ => ?_)))))
  refine WL_callT (r := [ndB b 4 aop af ag n nums text]) zent rfl rfl rfl (fun W hS => ref_sign1 18 G W hS) ?_
  intro x1 G1 h1 g1
  ((repeat' (first|refine zza ?_|refine zc9 ?_|refine zzb fun w hw => ?_|refine zzh fun _ => ?_|refine zzi fun _ _ => ?_|refine zzj (fun _ => ?_) fun _ => ?_)); (repeat' (refine CW_seq ?_; (repeat' (first|refine zza ?_|refine zc9 ?_|refine zzb fun w hw => ?_|refine zzh fun _ => ?_|refine zzi fun _ _ => ?_|refine zzj (fun _ => ?_) fun _ => ?_)))))
  exact Tells.val (V := wrdV [tokK 18] (k + 1)) x1 g1 hw h1
set_option maxHeartbeats 8000000 in
set_option maxRecDepth 100000 in
theorem words_omega (p : Option Addr) (c : Nat) (L : List NodM) (k : Nat) (G : Rd) (W : World) (aop af ag n : Int) (nums : SlV Int) (text : List UInt8) (hk : k < 400) :
    WRest [tokK 19] (k + 1) p c L k G W 5 aop af ag n nums text := by
  intro b
  conv =>
    pattern cP _ _
    whnf
  ((repeat' (first|refine zza ?_|refine zc9 ?_|refine zzb fun w hw => ?_|refine zzh fun _ => ?_|refine zzi fun _ _ => ?_|refine zzj (fun _ => ?_) fun _ => ?_)); (repeat' (refine CW_seq ?_; (repeat' (first|refine zza ?_|refine zc9 ?_|refine zzb fun w hw => ?_|refine zzh fun _ => ?_|refine zzi fun _ _ => ?_|refine zzj (fun _ => ?_) fun _ => ?_)))))
  refine WL_callT (r := [ndB b 5 aop af ag n nums text]) zent rfl rfl rfl (fun W hS => ref_sign1 19 G W hS) ?_
  intro x1 G1 h1 g1
  ((repeat' (first|refine zza ?_|refine zc9 ?_|refine zzb fun w hw => ?_|refine zzh fun _ => ?_|refine zzi fun _ _ => ?_|refine zzj (fun _ => ?_) fun _ => ?_)); (repeat' (refine CW_seq ?_; (repeat' (first|refine zza ?_|refine zc9 ?_|refine zzb fun w hw => ?_|refine zzh fun _ => ?_|refine zzi fun _ _ => ?_|refine zzj (fun _ => ?_) fun _ => ?_)))))
  exact Tells.val (V := wrdV [tokK 19] (k + 1)) x1 g1 hw h1
end Go.Proofs.YtanbifmcnkhdhaaGreatDoor
