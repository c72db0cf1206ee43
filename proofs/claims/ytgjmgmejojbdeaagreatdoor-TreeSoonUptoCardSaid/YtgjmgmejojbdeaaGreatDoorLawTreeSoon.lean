/-
  The law TreeSoon.
-/
import Derived.Test.YtgjmgmejojbdeaaGreatDoorGo
import Derived.Test.YtgjmgmejojbdeaaGreatDoorBrackets
import Derived.Test.YtgjmgmejojbdeaaGreatDoorLaidF
import Derived.Test.YtgjmgmejojbdeaaGreatDoorEmptyL
import Derived.Test.YtgjmgmejojbdeaaGreatDoorRefSpelt
namespace Go.Proofs.YtgjmgmejojbdeaaGreatDoor
open Go.RowKit

/-- all that is in memory may be read from here on -/
theorem CW_whole {P : Program} {K : Cx} {ρ : Env} {m : List HP} {Q : Exit → Act → World → Prop} {x : Code} {Φ : Rd → Prop} (hF : K.F = []) (hk : ∀ W, Holds K.w0 K.F m W → Φ W.cell?) (h : ∀ G, Φ G → CW P K Q x ρ [ro K.w0 K.F G]) : CW P K Q x ρ m := by
  obtain ⟨N, D, w0, F⟩ := K
  dsimp only at hF
  subst hF
  exact ⟨fun a w hf hm => (h w.cell? (hk w hm)).run a w hf hm.whole⟩
theorem Row.take {α : Type} {enc : α → List Value} {sz : Nat} {G : Rd} {p : Option Addr} {c : Nat} {xs : List α} (h : Row enc sz G p c xs) (n : Nat) : Row enc sz G p c (xs.take n) :=
  ⟨Nat.le_trans (by simp; omega) h.le, h.max, fun hn => h.some' (by rintro rfl; simp at hn), fun i x hx => h.cell i x (by
    rw [List.getElem?_take] at hx
    split at hx
    · exact hx
    · simp at hx)⟩
/-- what a law knows of what Parse told -/
def ParA (L : List Tok) (z : List NodM × Option Addr × Nat) (G : Rd) : Prop := z.1.map NodM.nod = (parseF L).2.2 ∧ Row nodE 7 G z.2.1 z.2.2 z.1 ∧ ∀ x ∈ z.1, NodG G x
def parV (L : List Tok) (z : List NodM × Option Addr × Nat) : Value := .tuple #[.slice z.2.1 z.1.length z.2.2, .int .i64 (parseF L).2.1, errV 36 (parseF L).1]
theorem parse_law (p : Option Addr) (c : Nat) (L : List Tok) (W : World) (hR : Row tokE 5 W.cell? p c L) (hT : ∀ t ∈ L, I64 t.num ∧ I64 t.fn ∧ t.text.length ≤ 4294967280) (hG : GlobA W) :
    Calls Tryz.prog 7 #[.slice p L.length c] W fun e w' => ∃ z : List NodM × Option Addr × Nat, e = .returned (parV L z) ∧ Below W.heap.size W w' ∧ (ParA L z w'.cell? ∧ Rd.le W.cell? w'.cell?) :=
  (tree_Parse p c L W hR hT hG).mono fun _ _ ⟨ns, q, c', h1, h2, h3, h4, hb⟩ => ⟨(ns, q, c'), h4, hb, ⟨h1, h2, h3⟩, Rd.le_below hb⟩
def numT : Tok := ⟨1, 0, 5, [], 0⟩
theorem num_spells : (spellF [numT]).2 = 0 := by decide +kernel
theorem fact_linP : linP [numT, rightT] = .ok ((none, .leaf ⟨1, 0, 0, 0, 0, [5], []⟩), [rightT]) := by kernel_rfl
theorem fact_soon : parseF [numT, rightT] = (1, 1, []) := by
  have hb : badI [numT, rightT] = 2 := badI_of (L := [numT, rightT]) (fun j _ t ht => by
    have := List.mem_of_getElem? ht
    simp only [List.mem_cons, List.not_mem_nil, or_false] at this
    rcases this with rfl | rfl
    · exact num_spells
    · exact right_spells) (Nat.le_refl _) (fun t ht => by simp at ht)
  unfold parseF
  rw [if_neg (by simp), hb, show ([numT, rightT] : List Tok)[2]? = none by rfl]
  simp only
  rw [fact_linP]
  rfl
theorem tokOk_lit {t : Tok} (h : t = numT ∨ t = rightT) : I64 t.num ∧ I64 t.fn ∧ t.text.length ≤ 4294967280 := by
  rcases h with rfl | rfl <;> simp [numT, rightT, I64]
theorem posF_form (L : List Tok) : posF L = (0, 0) ∨ ∃ a : Nat, posF L = (1, (a : Int)) := by
  unfold posF
  split
  · exact .inr ⟨_, rfl⟩
  · split
    · exact .inl rfl
    · exact .inr ⟨_, rfl⟩
theorem cells_tok (t : Tok) : ∀ u ∈ tokE t, u.oneCell' = true := fun u hu => by
  simp only [tokE, List.mem_cons, List.not_mem_nil, or_false] at hu
  rcases hu with rfl | rfl | rfl | rfl | rfl <;> rfl
theorem parse_at {L : List Tok} {a : Nat} {b : Int} (hl : L.length ≤ 200) (hs : ∀ t ∈ L, (spellF [t]).2 = 0) (h : posF L = (b, (a : Int))) : ∃ ns, parseF L = (b, (a : Int), ns) := by
  obtain ⟨h1, h2⟩ := parse_pos hl hs
  rw [h] at h1 h2
  dsimp only at h1 h2
  exact ⟨(parseF L).2.2, by rw [← h1, ← h2]⟩
theorem y_sliceHd {P : Program} {K : Cx} {ρ : Env} {m : List HP} {ty : TypeId} {dst : Option Nat} {t : TypeId} {pos : String} {aft : Array Edge} {g : Option (Nat × Bool)} {x z : Operand} {e : TypeId} {sz : Nat} [S : SlT P t e sz] {p : Option Addr} {n c h : Nat} {k : IntKind} (hx : opv ρ x = some (.slice p n c)) (hz : opv ρ z = some (.int k (h : Int))) (h3 : h ≤ c) : Yi P K ρ m ⟨dst, .slice t x none (some z) none, ty, pos, aft, g⟩ (.slice p h c) := ⟨fun _ w hf _ => by
  have he : P.elem t = e := by simp [Program.elem, S.und]
  have ht' : P.underlying t = some (.slice (P.elem t)) := by rw [he]; exact S.und
  have h4 : (Instr.sliceAt t (.slice p n c) none (some (.int k (h : Int))) none).run P w = .ok (.slice p h c) w := by
    rw [run_sliceAt_slice (w := w) t _ _ _ _ ht', run_slice_h (w := w) t p n c ht' k (h : Int) (by omega) (by omega), he, S.size w]
    simp only [Result.andThen, sliced]
    cases p with
    | none => simp
    | some a => simp [add_zero]
  simp only [execOp, Option.map_some, Option.map_none, hf.eval hx, hf.eval hz]
  simp [h4]⟩
set_option maxHeartbeats 8000000 in
set_option maxRecDepth 100000 in
theorem law_TreeSoon (p p' : Option Addr) (c c' : Nat) (L M : List Tok) (u0 : World) (hR : Row tokE 5 u0.cell? p c L) (hR' : Row tokE 5 u0.cell? p' c' M) (hT : ∀ t ∈ L, I64 t.num ∧ I64 t.fn ∧ t.text.length ≤ 4294967280) (hT' : ∀ t ∈ M, I64 t.num ∧ I64 t.fn ∧ t.text.length ≤ 4294967280) (hG : GlobA u0) (hH : Handle u0) (hLl : L.length ≤ 1048576) (hMl : M.length ≤ 1048576) :
    Calls Tryz.prog 4 #[.slice p L.length c, .slice p' M.length c'] u0 fun e w' => e = .returned (.bool true) ∧ Below u0.heap.size u0 w' := by
  have hmaxL := hR.len
  have hmaxM := hR'.len
  have hE1 := fun W (h : Handle W) => same_Error 1 1 W h
  rw [errV_ne (by decide : (1 : Int) ≠ 0)] at hE1
  have hE0 := fun W (h : Handle W) => same_Error 0 1 W h
  rw [errV_zero] at hE0
  refine enterR (G := u0.cell?) (args := [_, _]) (m := []) (F := []) (Rd.sub_cell u0) rfl Tryz.func4 rfl Tryz.ntmps4 (by simp) ?_
  ((repeat' (first|refine zza ?_|refine zc9 ?_|refine zzb fun w hw => ?_|refine zzh fun _ => ?_|refine zzi fun _ _ => ?_|refine zzj (fun _ => ?_) fun _ => ?_)); (repeat' (refine CW_seq ?_; (repeat' (first|refine zza ?_|refine zc9 ?_|refine zzb fun w hw => ?_|refine zzh fun _ => ?_|refine zzi fun _ _ => ?_|refine zzj (fun _ => ?_) fun _ => ?_)))))
  rename_i b2
  refine WL_ent (m' := [blk b2 30 ([numT, rightT].flatMap tokE).toArray, ro u0 [] u0.cell?]) (Ent.consK (k := Ent.cons .here Ent.nil) .here) ?_
  refine WL_callA (X := List NodM × Option Addr × Nat) (V := parV [numT, rightT]) (Φ := fun z G => ParA [numT, rightT] z G ∧ Rd.le u0.cell? G) rfl rfl rfl rfl (fun W hW => (parse_law (some ⟨b2, 0, none⟩) 2 [numT, rightT] W (row_blk (enc := tokE) (xs := [numT, rightT]) hW .here (fun _ => rfl) (by simp)) (fun x hx => tokOk_lit (by simpa using hx)) (hG.below hW.below)).mono fun e w' ⟨z, h1, h2, h3, h4⟩ => ⟨z, h1, h2, h3, fun a v e => h4 a v (hW.rd (.there .here) e)⟩) ?_
  rintro ⟨x1, q1, k1⟩ G1 ⟨⟨hx1, hr1, hg1⟩, hle1⟩
  unfold parV
  rw [fact_soon] at hx1
  dsimp only at hx1 hr1
  rw [fact_soon]
  dsimp only
  rw [errV_ne (by decide : (1 : Int) ≠ 0)]
  obtain rfl : x1 = [] := List.map_eq_nil_iff.1 hx1
  clear hx1 hg1 hr1
  rw [show ([] : List NodM).length = 0 from rfl]
  have hRG := hR.mono hle1
  have hRG' := hR'.mono hle1
  ((repeat' (first|refine zza ?_|refine zc9 ?_|refine zzb fun w hw => ?_|refine zzh fun _ => ?_|refine zzi fun _ _ => ?_|refine zzj (fun _ => ?_) fun _ => ?_)); (repeat' (refine CW_seq ?_; (repeat' (first|refine zza ?_|refine zc9 ?_|refine zzb fun w hw => ?_|refine zzh fun _ => ?_|refine zzi fun _ _ => ?_|refine zzj (fun _ => ?_) fun _ => ?_)))))
  (apply WL_callV; rfl; rfl; rfl; (intro W hW; exact hE1 W (hH.below hW.below)))
  ((repeat' (first|refine zza ?_|refine zc9 ?_|refine zzb fun w hw => ?_|refine zzh fun _ => ?_|refine zzi fun _ _ => ?_|refine zzj (fun _ => ?_) fun _ => ?_)); (repeat' (refine CW_seq ?_; (repeat' (first|refine zza ?_|refine zc9 ?_|refine zzb fun w hw => ?_|refine zzh fun _ => ?_|refine zzi fun _ _ => ?_|refine zzj (fun _ => ?_) fun _ => ?_)))))
  apply WL_bslice0 rfl rfl
  intro b5
  ((repeat' (first|refine zza ?_|refine zc9 ?_|refine zzb fun w hw => ?_|refine zzh fun _ => ?_|refine zzi fun _ _ => ?_|refine zzj (fun _ => ?_) fun _ => ?_)); (repeat' (refine CW_seq ?_; (repeat' (first|refine zza ?_|refine zc9 ?_|refine zzb fun w hw => ?_|refine zzh fun _ => ?_|refine zzi fun _ _ => ?_|refine zzj (fun _ => ?_) fun _ => ?_)))))
  apply WL_appendRowG (enc := tokE) (sz := 5) (fun _ => rfl) (by decide) (fun x _ => cells_tok x) hRG rfl rfl .here (.there .here) (by omega) (by omega) rfl rfl
  intro q3 c3
  ((repeat' (first|refine zza ?_|refine zc9 ?_|refine zzb fun w hw => ?_|refine zzh fun _ => ?_|refine zzi fun _ _ => ?_|refine zzj (fun _ => ?_) fun _ => ?_)); (repeat' (refine CW_seq ?_; (repeat' (first|refine zza ?_|refine zc9 ?_|refine zzb fun w hw => ?_|refine zzh fun _ => ?_|refine zzi fun _ _ => ?_|refine zzj (fun _ => ?_) fun _ => ?_)))))
  apply WL_appendRowG (enc := tokE) (sz := 5) (fun _ => rfl) (by decide) (fun x _ => cells_tok x) hRG' rfl rfl .here (.there .here) (by omega) (by omega) rfl rfl
  intro q4 c4
  obtain ⟨U, hU⟩ : ∃ U, U = L ++ M := ⟨_, rfl⟩
  rw [show 0 + L.length + M.length = U.length by rw [hU]; simp, show ([] ++ L.flatMap tokE) ++ M.flatMap tokE = U.flatMap tokE by rw [hU]; simp]
  ((repeat' (first|refine zza ?_|refine zc9 ?_|refine zzb fun w hw => ?_|refine zzh fun _ => ?_|refine zzi fun _ _ => ?_|refine zzj (fun _ => ?_) fun _ => ?_)); (repeat' (refine CW_seq ?_; (repeat' (first|refine zza ?_|refine zc9 ?_|refine zzb fun w hw => ?_|refine zzh fun _ => ?_|refine zzi fun _ _ => ?_|refine zzj (fun _ => ?_) fun _ => ?_)))))
  refine CW_whole (Φ := fun G => Row tokE 5 G q4 c4 U ∧ Rd.le u0.cell? G) rfl (fun W hW => ⟨(row_sl (enc := tokE) (fun _ => rfl) (by decide) hW .here).2, Rd.le_trans hle1 (hW.le (.there .here))⟩) ?_
  clear hRG hRG' hle1
  rintro G2 ⟨hRU, hle2⟩
  have hUl : U.length ≤ 2097152 := by
    rw [hU, List.length_append]
    omega
  have hTU : ∀ t ∈ U, I64 t.num ∧ I64 t.fn ∧ t.text.length ≤ 4294967280 := fun t ht => by
    rw [hU] at ht
    rcases List.mem_append.1 ht with ht | ht
    · exact hT t ht
    · exact hT' t ht
  refine CW_loopP [(0,_),(9,_)] zcov (fun i : Nat => [(10, .int .i64 (i : Int))]) (fun i => i ≤ U.length ∧ ∀ t ∈ U.take i, aloneF t = 0) (fun i => U.length - i) 0 ⟨Nat.zero_le _, by simp⟩ zcov ?_
  rintro i ⟨hi, hall⟩
  by_cases hlt : i < U.length
  · obtain ⟨t, ht⟩ : ∃ t, U[i]? = some t := ⟨U[i], by simp [hlt]⟩
    have htok := hTU t (List.mem_of_getElem? ht)
    ((repeat' (first|refine zza ?_|refine zc9 ?_|refine zzb fun w hw => ?_|refine zzh fun _ => ?_|refine zzi fun _ _ => ?_|refine zzj (fun _ => ?_) fun _ => ?_)); (repeat' (refine CW_seq ?_; (repeat' (first|refine zza ?_|refine zc9 ?_|refine zzb fun w hw => ?_|refine zzh fun _ => ?_|refine zzi fun _ _ => ?_|refine zzj (fun _ => ?_) fun _ => ?_)))))
    (apply WL_callV; rfl; rfl; rfl; (intro W hW; exact ref_Alone t htok.1 htok.2.1 htok.2.2 W))
    by_cases ha : aloneF t = 0
    · rw [ha]
      ((repeat' (first|refine zza ?_|refine zc9 ?_|refine zzb fun w hw => ?_|refine zzh fun _ => ?_|refine zzi fun _ _ => ?_|refine zzj (fun _ => ?_) fun _ => ?_)); (repeat' (refine CW_seq ?_; (repeat' (first|refine zza ?_|refine zc9 ?_|refine zzb fun w hw => ?_|refine zzh fun _ => ?_|refine zzi fun _ _ => ?_|refine zzj (fun _ => ?_) fun _ => ?_)))))
      exact EX_loop' (i + 1) ⟨zcov, zent, by omega, by omega, fun u hu => by
        rw [List.take_add_one, ht] at hu
        rcases List.mem_append.1 hu with hu | hu
        · exact hall u hu
        · obtain rfl : u = t := by simpa using hu
          exact ha⟩
    · ((repeat' (first|refine zza ?_|refine zc9 ?_|refine zzb fun w hw => ?_|refine zzh fun _ => ?_|refine zzi fun _ _ => ?_|refine zzj (fun _ => ?_) fun _ => ?_)); (repeat' (refine CW_seq ?_; (repeat' (first|refine zza ?_|refine zc9 ?_|refine zzb fun w hw => ?_|refine zzh fun _ => ?_|refine zzi fun _ _ => ?_|refine zzj (fun _ => ?_) fun _ => ?_)))))
      exact ⟨rfl, hw.below⟩
  have hiU : i = U.length := by omega
  subst hiU
  rw [List.take_length] at hall
  have hsp : ∀ t ∈ U, (spellF [t]).2 = 0 := fun t ht => by rw [alone_spell]; exact hall t ht
  have hspL : ∀ t ∈ L, (spellF [t]).2 = 0 := fun t ht => hsp t (by rw [hU]; exact List.mem_append_left _ ht)
  have hRL := hR.mono hle2
  ((repeat' (first|refine zza ?_|refine zc9 ?_|refine zzb fun w hw => ?_|refine zzh fun _ => ?_|refine zzi fun _ _ => ?_|refine zzj (fun _ => ?_) fun _ => ?_)); (repeat' (refine CW_seq ?_; (repeat' (first|refine zza ?_|refine zc9 ?_|refine zzb fun w hw => ?_|refine zzh fun _ => ?_|refine zzi fun _ _ => ?_|refine zzj (fun _ => ?_) fun _ => ?_)))))
  refine WL_callA (X := List NodM × Option Addr × Nat) (V := parV L) (Φ := fun z G => ParA L z G ∧ Rd.le G2 G) rfl rfl rfl rfl (fun W hW => (parse_law p c L W (hRL.mono (hW.le .here)) hT (hG.below hW.below)).mono fun e w' ⟨z, h1, h2, h3, h4⟩ => ⟨z, h1, h2, h3, Rd.le_trans (hW.le .here) h4⟩) ?_
  rintro ⟨x2, q2, k2⟩ G3 ⟨⟨hx2, hr2, hg2⟩, hle3⟩
  clear hx2 hr2 hg2
  have hRU3 := hRU.mono hle3
  have hRL3 := hRL.mono hle3
  unfold parV
  obtain ⟨er, at2, ns, hP⟩ : ∃ a b c, parseF L = (a, b, c) := ⟨_, _, _, rfl⟩
  rw [hP]
  dsimp only
  by_cases her : er = 0
  · subst her
    rw [errV_zero]
    ((repeat' (first|refine zza ?_|refine zc9 ?_|refine zzb fun w hw => ?_|refine zzh fun _ => ?_|refine zzi fun _ _ => ?_|refine zzj (fun _ => ?_) fun _ => ?_)); (repeat' (refine CW_seq ?_; (repeat' (first|refine zza ?_|refine zc9 ?_|refine zzb fun w hw => ?_|refine zzh fun _ => ?_|refine zzi fun _ _ => ?_|refine zzj (fun _ => ?_) fun _ => ?_)))))
    exact ⟨rfl, hw.below⟩
  rw [errV_ne her]
  by_cases hat : (L.length : Int) ≤ at2
  · ((repeat' (first|refine zza ?_|refine zc9 ?_|refine zzb fun w hw => ?_|refine zzh fun _ => ?_|refine zzi fun _ _ => ?_|refine zzj (fun _ => ?_) fun _ => ?_)); (repeat' (refine CW_seq ?_; (repeat' (first|refine zza ?_|refine zc9 ?_|refine zzb fun w hw => ?_|refine zzh fun _ => ?_|refine zzi fun _ _ => ?_|refine zzj (fun _ => ?_) fun _ => ?_)))))
    exact ⟨rfl, hw.below⟩
  by_cases hU2 : 200 < U.length
  · have hUi : (200 : Int) < (U.length : Int) := by omega
    ((repeat' (first|refine zza ?_|refine zc9 ?_|refine zzb fun w hw => ?_|refine zzh fun _ => ?_|refine zzi fun _ _ => ?_|refine zzj (fun _ => ?_) fun _ => ?_)); (repeat' (refine CW_seq ?_; (repeat' (first|refine zza ?_|refine zc9 ?_|refine zzb fun w hw => ?_|refine zzh fun _ => ?_|refine zzi fun _ _ => ?_|refine zzj (fun _ => ?_) fun _ => ?_)))))
    exact ⟨rfl, hw.below⟩
  have hUi : ¬ (200 : Int) < (U.length : Int) := by omega
  have hL2 : L.length ≤ 200 := by
    have : U.length = L.length + M.length := by rw [hU, List.length_append]
    omega
  obtain ⟨e1, e2⟩ := parse_pos hL2 hspL
  rw [hP] at e1 e2
  dsimp only at e1 e2
  rcases posF_form L with h0 | ⟨a, hpa⟩
  · rw [h0] at e1
    exact absurd e1 her
  rw [hpa] at e1 e2
  dsimp only at e1 e2
  subst e1 e2
  have haL : a < L.length := by omega
  obtain ⟨s1, s2⟩ := soon_pos M hpa haL
  rw [← hU] at s1
  obtain ⟨ns3, hP3⟩ := parse_at (by omega) hsp s1
  have hspa : ∀ t ∈ L.take a, (spellF [t]).2 = 0 := fun t ht => hspL t (List.mem_of_mem_take ht)
  have hla : (L.take a).length = a := by rw [List.length_take]; omega
  have hRa := hRL3.take a
  ((repeat' (first|refine zza ?_|refine zc9 ?_|refine zzb fun w hw => ?_|refine zzh fun _ => ?_|refine zzi fun _ _ => ?_|refine zzj (fun _ => ?_) fun _ => ?_)); (repeat' (refine CW_seq ?_; (repeat' (first|refine zza ?_|refine zc9 ?_|refine zzb fun w hw => ?_|refine zzh fun _ => ?_|refine zzi fun _ _ => ?_|refine zzj (fun _ => ?_) fun _ => ?_)))))
  (apply WL_callV; rfl; rfl; rfl; (intro W hW; exact hE1 W (hH.below hW.below)))
  ((repeat' (first|refine zza ?_|refine zc9 ?_|refine zzb fun w hw => ?_|refine zzh fun _ => ?_|refine zzi fun _ _ => ?_|refine zzj (fun _ => ?_) fun _ => ?_)); (repeat' (refine CW_seq ?_; (repeat' (first|refine zza ?_|refine zc9 ?_|refine zzb fun w hw => ?_|refine zzh fun _ => ?_|refine zzi fun _ _ => ?_|refine zzj (fun _ => ?_) fun _ => ?_)))))
  refine WL_callA (X := List NodM × Option Addr × Nat) (V := parV U) (Φ := fun z G => ParA U z G ∧ Rd.le G3 G) rfl rfl rfl rfl (fun W hW => (parse_law q4 c4 U W (hRU3.mono (hW.le .here)) hTU (hG.below hW.below)).mono fun e w' ⟨z, h1, h2, h3, h4⟩ => ⟨z, h1, h2, h3, Rd.le_trans (hW.le .here) h4⟩) ?_
  rintro ⟨x3, q5, k3⟩ G4 ⟨⟨hx3, hr3, hg3⟩, hle4⟩
  clear hx3 hr3 hg3
  have hRa4 := hRa.mono hle4
  unfold parV
  rw [hP3]
  dsimp only
  rw [errV_ne (by decide : (1 : Int) ≠ 0)]
  ((repeat' (first|refine zza ?_|refine zc9 ?_|refine zzb fun w hw => ?_|refine zzh fun _ => ?_|refine zzi fun _ _ => ?_|refine zzj (fun _ => ?_) fun _ => ?_)); (repeat' (refine CW_seq ?_; (repeat' (first|refine zza ?_|refine zc9 ?_|refine zzb fun w hw => ?_|refine zzh fun _ => ?_|refine zzi fun _ _ => ?_|refine zzj (fun _ => ?_) fun _ => ?_)))))
  (apply WL_callV; rfl; rfl; rfl; (intro W hW; exact hE1 W (hH.below hW.below)))
  have han : ¬ (a : Int) < 0 := by omega
  ((repeat' (first|refine zza ?_|refine zc9 ?_|refine zzb fun w hw => ?_|refine zzh fun _ => ?_|refine zzi fun _ _ => ?_|refine zzj (fun _ => ?_) fun _ => ?_)); (repeat' (refine CW_seq ?_; (repeat' (first|refine zza ?_|refine zc9 ?_|refine zzb fun w hw => ?_|refine zzh fun _ => ?_|refine zzi fun _ _ => ?_|refine zzj (fun _ => ?_) fun _ => ?_)))))
  have hac : a ≤ c := by
    have := hR.le
    omega
  refine WL_op rfl rfl (y_sliceHd (h := a) rfl rfl hac) ?_
  conv in Value.slice p a c => rw [show a = (L.take a).length from hla.symm]
  ((repeat' (first|refine zza ?_|refine zc9 ?_|refine zzb fun w hw => ?_|refine zzh fun _ => ?_|refine zzi fun _ _ => ?_|refine zzj (fun _ => ?_) fun _ => ?_)); (repeat' (refine CW_seq ?_; (repeat' (first|refine zza ?_|refine zc9 ?_|refine zzb fun w hw => ?_|refine zzh fun _ => ?_|refine zzi fun _ _ => ?_|refine zzj (fun _ => ?_) fun _ => ?_)))))
  refine WL_callA (X := List NodM × Option Addr × Nat) (V := parV (L.take a)) (Φ := fun z G => ParA (L.take a) z G ∧ Rd.le G4 G) rfl rfl rfl rfl (fun W hW => (parse_law p c (L.take a) W (hRa4.mono (hW.le .here)) (fun t ht => hT t (List.mem_of_mem_take ht)) (hG.below hW.below)).mono fun e w' ⟨z, h1, h2, h3, h4⟩ => ⟨z, h1, h2, h3, Rd.le_trans (hW.le .here) h4⟩) ?_
  rintro ⟨x4, q6, k4⟩ G5 ⟨⟨hx4, hr4, hg4⟩, hle5⟩
  clear hx4 hr4 hg4
  obtain ⟨f1, f2⟩ := parse_pos (L := L.take a) (by omega) hspa
  unfold parV
  rcases s2 with s2 | s2
  · rw [s2] at f1
    rw [f1, errV_zero]
    ((repeat' (first|refine zza ?_|refine zc9 ?_|refine zzb fun w hw => ?_|refine zzh fun _ => ?_|refine zzi fun _ _ => ?_|refine zzj (fun _ => ?_) fun _ => ?_)); (repeat' (refine CW_seq ?_; (repeat' (first|refine zza ?_|refine zc9 ?_|refine zzb fun w hw => ?_|refine zzh fun _ => ?_|refine zzi fun _ _ => ?_|refine zzj (fun _ => ?_) fun _ => ?_)))))
    (apply WL_callV; rfl; rfl; rfl; (intro W hW; exact hE0 W (hH.below hW.below)))
    ((repeat' (first|refine zza ?_|refine zc9 ?_|refine zzb fun w hw => ?_|refine zzh fun _ => ?_|refine zzi fun _ _ => ?_|refine zzj (fun _ => ?_) fun _ => ?_)); (repeat' (refine CW_seq ?_; (repeat' (first|refine zza ?_|refine zc9 ?_|refine zzb fun w hw => ?_|refine zzh fun _ => ?_|refine zzi fun _ _ => ?_|refine zzj (fun _ => ?_) fun _ => ?_)))))
    exact ⟨rfl, hw.below⟩
  · rw [s2] at f1 f2
    dsimp only at f1 f2
    rw [f1, f2, errV_ne (by decide : (1 : Int) ≠ 0)]
    ((repeat' (first|refine zza ?_|refine zc9 ?_|refine zzb fun w hw => ?_|refine zzh fun _ => ?_|refine zzi fun _ _ => ?_|refine zzj (fun _ => ?_) fun _ => ?_)); (repeat' (refine CW_seq ?_; (repeat' (first|refine zza ?_|refine zc9 ?_|refine zzb fun w hw => ?_|refine zzh fun _ => ?_|refine zzi fun _ _ => ?_|refine zzj (fun _ => ?_) fun _ => ?_)))))
    (apply WL_callV; rfl; rfl; rfl; (intro W hW; exact hE1 W (hH.below hW.below)))
    ((repeat' (first|refine zza ?_|refine zc9 ?_|refine zzb fun w hw => ?_|refine zzh fun _ => ?_|refine zzi fun _ _ => ?_|refine zzj (fun _ => ?_) fun _ => ?_)); (repeat' (refine CW_seq ?_; (repeat' (first|refine zza ?_|refine zc9 ?_|refine zzb fun w hw => ?_|refine zzh fun _ => ?_|refine zzi fun _ _ => ?_|refine zzj (fun _ => ?_) fun _ => ?_)))))
    exact ⟨by simp, hw.below⟩
theorem open_TreeSoon (x y : SlV Tok) (w : World) (s : SlS tokE 5 (fun _ B t => I64 t.num ∧ I64 t.fn ∧ I64 t.kind ∧ I64 t.at_ ∧ t.text.length ≤ B) w 1048576 x) (s' : SlS tokE 5 (fun _ B t => I64 t.num ∧ I64 t.fn ∧ I64 t.kind ∧ I64 t.at_ ∧ t.text.length ≤ B) w 1048576 y) (L : LaidOk w) :
    Calls Tryz.prog 4 #[x.val, y.val] w fun e w' => e = .returned (.bool true) ∧ Below w.heap.size w w' :=
  law_TreeSoon x.p y.p x.c y.c x.xs y.xs w s.row s'.row (fun t ht => ⟨(s.each t ht).1, (s.each t ht).2.1, by have := (s.each t ht).2.2.2.2; omega⟩) (fun t ht => ⟨(s'.each t ht).1, (s'.each t ht).2.1, by have := (s'.each t ht).2.2.2.2; omega⟩) L.glob L.hand s.len s'.len
end Go.Proofs.YtgjmgmejojbdeaaGreatDoor
