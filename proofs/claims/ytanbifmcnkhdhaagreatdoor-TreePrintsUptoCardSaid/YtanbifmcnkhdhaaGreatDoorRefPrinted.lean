/-
  ravelinref3: Printed: the words of a tree.
-/
import Derived.Test.YtanbifmcnkhdhaaGreatDoorGo
import Derived.Test.YtanbifmcnkhdhaaGreatDoorRefWordx
import Derived.Test.YtanbifmcnkhdhaaGreatDoorRefFault
import Derived.Test.YtanbifmcnkhdhaaGreatDoorPrint5
namespace Go.Proofs.YtanbifmcnkhdhaaGreatDoor
open Go.RowKit

theorem ok_head {d : Nat} {e : Ex} (h : e.ok d) {n : Nod} {t : List Nod} (hf : e.flat = n :: t) : n.op ≠ 9 := by
  cases e with
  | leaf m =>
    obtain ⟨_, h2⟩ := h
    simp only [Ex.flat, List.cons.injEq] at hf
    rw [← hf.1]
    omega
  | one m b r =>
    unfold Ex.ok at h
    simp only [Ex.flat, List.cons.injEq] at hf
    rw [← hf.1]
    have := h.1.2.1
    omega
  | two m l b r =>
    unfold Ex.ok at h
    simp only [Ex.flat, List.cons.injEq] at hf
    rw [← hf.1]
    have := h.1.2.1
    omega
  | pick m o b =>
    unfold Ex.ok at h
    simp only [Ex.flat, List.cons.injEq] at hf
    rw [← hf.1]
    have := h.1.2.1
    omega
set_option maxHeartbeats 8000000 in
set_option maxRecDepth 100000 in
theorem ref_Printed (p : Option Addr) (c : Nat) (L : List NodM) (G : Rd) (W : World) (hS : Rd.sub G [] W) (hR : Row nodE 7 G p c L) (hB : ∀ x ∈ L, NodG G x) (hN : ∀ x ∈ L, x.nums.xs.length ≤ 1048576) :
    Calls Tryz.prog 13 #[.slice p L.length c] W (Tells (fun x : Option Addr × Nat => .tuple #[.slice x.1 (printF (L.map NodM.nod)).2.length x.2, .int .i64 (printF (L.map NodM.nod)).1]) (TokR (printF (L.map NodM.nod)).2) G W) := by
  refine enterR (args := [_]) (m := []) (F := []) hS rfl Tryz.func13 rfl Tryz.ntmps13 (by simp) ?_
  have hfault := fun (W' : World) (hl : Rd.le G W'.cell?) => ref_TreeFault p c L W' (hR.mono hl) (fun x hx => (hB x hx).mono hl)
  by_cases hF : treeF (L.map NodM.nod) = 0
  case neg =>
    have hP : printF (L.map NodM.nod) = (treeF (L.map NodM.nod), []) := by unfold printF; rw [if_neg hF]
    rw [hP]
    generalize treeF (L.map NodM.nod) = f at *
    clear hR hB hN hS
    ((repeat' (first|refine zza ?_|refine zc9 ?_|refine zzb fun w hw => ?_|refine zzh fun _ => ?_|refine zzi fun _ _ => ?_|refine zzj (fun _ => ?_) fun _ => ?_)); (repeat' (refine CW_seq ?_; (repeat' (first|refine zza ?_|refine zc9 ?_|refine zzb fun w hw => ?_|refine zzh fun _ => ?_|refine zzi fun _ _ => ?_|refine zzj (fun _ => ?_) fun _ => ?_)))))
    (apply WL_callV; rfl; rfl; rfl; (intro W hW; exact hfault W (hW.le .here)))
    ((repeat' (first|refine zza ?_|refine zc9 ?_|refine zzb fun w hw => ?_|refine zzh fun _ => ?_|refine zzi fun _ _ => ?_|refine zzj (fun _ => ?_) fun _ => ?_)); (repeat' (refine CW_seq ?_; (repeat' (first|refine zza ?_|refine zc9 ?_|refine zzb fun w hw => ?_|refine zzh fun _ => ?_|refine zzi fun _ _ => ?_|refine zzj (fun _ => ?_) fun _ => ?_)))))
    exact Tells.val (V := fun x : Option Addr × Nat => .tuple #[.slice x.1 ([] : List Tok).length x.2, .int .i64 f]) (none, 0) (Rd.grow_refl _ _) hw (Row.nil _ _ _)
  obtain ⟨t, ht⟩ : ∃ t, treeG (L.map NodM.nod) = some t := by
    unfold treeF at hF
    split at hF
    · omega
    · split at hF
      · rename_i h
        exact Option.isSome_iff_exists.1 h
      · omega
  have hL400 : L.length ≤ 400 := by
    unfold treeF at hF
    rw [List.length_map] at hF
    split at hF <;> omega
  have hlen := toksL_len ht
  have hnn : numsT (L.map NodM.nod) ≤ (L.map NodM.nod).length * 1048576 := numsT_le fun n hn => by
    obtain ⟨x, hx, rfl⟩ := List.mem_map.1 hn
    exact hN x hx
  rw [List.length_map] at hlen hnn
  have hlen' : (toksL t).length ≤ 600000000 := by omega
  clear hlen hnn hN
  have hP : printF (L.map NodM.nod) = if 200 < (toksL t).length then (7, []) else (0, toksL t) := by
    unfold printF
    rw [if_pos hF, ht]
  rw [hF] at hfault
  rw [hP]
  clear hP hF
  have hfin : ∀ (x : Option Addr × Nat) (G2 : Rd) (W2 : World), Rd.grow W G G2 → Row tokE 5 G2 x.1 x.2 (toksL t) → Holds W [] [ro W [] G2] W2 → (200 < (toksL t).length → Tells (fun x : Option Addr × Nat => .tuple #[.slice x.1 (if 200 < (toksL t).length then ((7 : Int), ([] : List Tok)) else (0, toksL t)).2.length x.2, .int .i64 (if 200 < (toksL t).length then ((7 : Int), ([] : List Tok)) else (0, toksL t)).1]) (TokR (if 200 < (toksL t).length then ((7 : Int), ([] : List Tok)) else (0, toksL t)).2) G W (.returned (.tuple #[.slice none 0 0, .int .i64 7])) W2) ∧ (¬ 200 < (toksL t).length → Tells (fun x : Option Addr × Nat => .tuple #[.slice x.1 (if 200 < (toksL t).length then ((7 : Int), ([] : List Tok)) else (0, toksL t)).2.length x.2, .int .i64 (if 200 < (toksL t).length then ((7 : Int), ([] : List Tok)) else (0, toksL t)).1]) (TokR (if 200 < (toksL t).length then ((7 : Int), ([] : List Tok)) else (0, toksL t)).2) G W (.returned (.tuple #[.slice x.1 (toksL t).length x.2, .int .i64 0])) W2) := fun x G2 W2 g h hw => by
    refine ⟨fun h200 => ?_, fun h200 => ?_⟩
    · rw [if_pos h200]
      exact Tells.val (V := fun x : Option Addr × Nat => .tuple #[.slice x.1 ([] : List Tok).length x.2, .int .i64 7]) (none, 0) g hw (Row.nil _ _ _)
    · rw [if_neg h200]
      exact Tells.val (V := fun x : Option Addr × Nat => .tuple #[.slice x.1 (toksL t).length x.2, .int .i64 0]) x g hw h
  generalize hQ : (fun x : Option Addr × Nat => (.tuple #[.slice x.1 (if 200 < (toksL t).length then ((7 : Int), ([] : List Tok)) else (0, toksL t)).2.length x.2, .int .i64 (if 200 < (toksL t).length then ((7 : Int), ([] : List Tok)) else (0, toksL t)).1] : Value)) = VV at hfin ⊢
  clear hQ
  generalize TokR (if 200 < (toksL t).length then ((7 : Int), ([] : List Tok)) else (0, toksL t)).2 = RR at hfin ⊢
  obtain ⟨x0, r0, hL0⟩ : ∃ x0 r0, L = x0 :: r0 := by
    cases L with
    | nil => simp [treeG] at ht
    | cons x0 r0 => exact ⟨x0, r0, rfl⟩
  have hx0 : L[0]? = some x0 := by rw [hL0]; rfl
  have hpos : 0 < L.length := by rw [hL0]; simp
  have ht0 := ht
  rw [hL0, List.map_cons, treeG_cons] at ht0
  by_cases h9 : x0.nod.op = 9 ∧ rightN x0.nod = true
  · rw [if_pos h9] at ht0
    split at ht0
    · rename_i e he
      injection ht0 with ht0
      subst ht0
      obtain ⟨hok, hfl⟩ := exF_iff.1 he
      have hdr : (L.map NodM.nod).drop 1 = e.flat ++ [] := by rw [hL0]; exact hfl
      have hwd := fun (W' : World) hS => words_ex e p c L 1 0 [] G W' hok hdr hL400 (by simp only [toksL, List.length_cons] at hlen'; omega) hR hB hS
      have h9' : x0.op = 9 := h9.1
      have hTt : toksL (some x0.nod, e) = [⟨3, 0, 0, x0.text, 0⟩, tokK 10] ++ e.toks := rfl
      rw [hTt] at hfin hlen'
      clear hTt ht hL0 he hok hfl hdr hB h9 hS
      have hel : e.toks.length ≤ 600000000 := by simp only [List.length_append] at hlen'; omega
      generalize hU : ([⟨3, 0, 0, x0.text, 0⟩, tokK 10] : List Tok) ++ e.toks = U at *
      ((repeat' (first|refine zza ?_|refine zc9 ?_|refine zzb fun w hw => ?_|refine zzh fun _ => ?_|refine zzi fun _ _ => ?_|refine zzj (fun _ => ?_) fun _ => ?_)); (repeat' (refine CW_seq ?_; (repeat' (first|refine zza ?_|refine zc9 ?_|refine zzb fun w hw => ?_|refine zzh fun _ => ?_|refine zzi fun _ _ => ?_|refine zzj (fun _ => ?_) fun _ => ?_)))))
      (apply WL_callV; rfl; rfl; rfl; (intro W hW; exact hfault W (hW.le .here)))
      clear hfault
      ((repeat' (first|refine zza ?_|refine zc9 ?_|refine zzb fun w hw => ?_|refine zzh fun _ => ?_|refine zzi fun _ _ => ?_|refine zzj (fun _ => ?_) fun _ => ?_)); (repeat' (refine CW_seq ?_; (repeat' (first|refine zza ?_|refine zc9 ?_|refine zzb fun w hw => ?_|refine zzh fun _ => ?_|refine zzi fun _ _ => ?_|refine zzj (fun _ => ?_) fun _ => ?_)))))
      refine WL_callT (r := []) zent rfl rfl rfl hwd ?_
      intro x1 G1 h1 g1
      have hR1 := hR.mono g1.1
      clear hwd hR
      ((repeat' (first|refine zza ?_|refine zc9 ?_|refine zzb fun w hw => ?_|refine zzh fun _ => ?_|refine zzi fun _ _ => ?_|refine zzj (fun _ => ?_) fun _ => ?_)); (repeat' (refine CW_seq ?_; (repeat' (first|refine zza ?_|refine zc9 ?_|refine zzb fun w hw => ?_|refine zzh fun _ => ?_|refine zzi fun _ _ => ?_|refine zzj (fun _ => ?_) fun _ => ?_)))))
      rename_i b2
      refine WL_row (enc := tokE) (sz := 5) (r := []) (xs := [⟨3, 0, 0, x0.text, 0⟩, tokK 10]) (fun _ => rfl) (by decide) rfl (Ent.cons (.there .here) (Ent.blkSlN (n := 2) (sz := 5) (xs := ([⟨3, 0, 0, x0.text, 0⟩, tokK 10] : List Tok).flatMap tokE) .here (by kernel_rfl) rfl (by decide) Ent.nil)) ?_
      intro G2 g2 h2
      refine WL_callT (r := []) zent rfl rfl rfl (fun W hS => ref_joinTokens [⟨3, 0, 0, x0.text, 0⟩, tokK 10] e.toks (some ⟨b2, 0, none⟩) x1.1 2 x1.2 G2 W hS h2 (h1.mono g2.1) (by simp; omega)) ?_
      intro x3 G3 h3 g3
      rw [hU] at h3 ⊢
      have hfin := hfin x3 G3
      by_cases h200 : 200 < U.length
      · ((repeat' (first|refine zza ?_|refine zc9 ?_|refine zzb fun w hw => ?_|refine zzh fun _ => ?_|refine zzi fun _ _ => ?_|refine zzj (fun _ => ?_) fun _ => ?_)); (repeat' (refine CW_seq ?_; (repeat' (first|refine zza ?_|refine zc9 ?_|refine zzb fun w hw => ?_|refine zzh fun _ => ?_|refine zzi fun _ _ => ?_|refine zzj (fun _ => ?_) fun _ => ?_)))))
        exact (hfin _ (Rd.grow_tr g1 (Rd.grow_tr g2 g3)) h3 hw).1 h200
      · ((repeat' (first|refine zza ?_|refine zc9 ?_|refine zzb fun w hw => ?_|refine zzh fun _ => ?_|refine zzi fun _ _ => ?_|refine zzj (fun _ => ?_) fun _ => ?_)); (repeat' (refine CW_seq ?_; (repeat' (first|refine zza ?_|refine zc9 ?_|refine zzb fun w hw => ?_|refine zzh fun _ => ?_|refine zzi fun _ _ => ?_|refine zzj (fun _ => ?_) fun _ => ?_)))))
        exact (hfin _ (Rd.grow_tr g1 (Rd.grow_tr g2 g3)) h3 hw).2 h200
    · cases ht0
  · rw [if_neg h9] at ht0
    split at ht0
    · rename_i e he
      injection ht0 with ht0
      subst ht0
      obtain ⟨hok, hfl⟩ := exF_iff.1 he
      have hdr : (L.map NodM.nod).drop 0 = e.flat ++ [] := by rw [hL0]; exact hfl
      rw [List.append_nil] at hfl
      have h9' : x0.op ≠ 9 := ok_head hok hfl.symm
      have hTt : toksL (none, e) = e.toks := rfl
      rw [hTt] at hfin hlen'
      have hwd := fun (W' : World) hS => words_ex e p c L 0 0 [] G W' hok hdr hL400 (by omega) hR hB hS
      clear hTt ht hL0 he hok hfl hdr hB h9 hS
      ((repeat' (first|refine zza ?_|refine zc9 ?_|refine zzb fun w hw => ?_|refine zzh fun _ => ?_|refine zzi fun _ _ => ?_|refine zzj (fun _ => ?_) fun _ => ?_)); (repeat' (refine CW_seq ?_; (repeat' (first|refine zza ?_|refine zc9 ?_|refine zzb fun w hw => ?_|refine zzh fun _ => ?_|refine zzi fun _ _ => ?_|refine zzj (fun _ => ?_) fun _ => ?_)))))
      (apply WL_callV; rfl; rfl; rfl; (intro W hW; exact hfault W (hW.le .here)))
      clear hfault
      ((repeat' (first|refine zza ?_|refine zc9 ?_|refine zzb fun w hw => ?_|refine zzh fun _ => ?_|refine zzi fun _ _ => ?_|refine zzj (fun _ => ?_) fun _ => ?_)); (repeat' (refine CW_seq ?_; (repeat' (first|refine zza ?_|refine zc9 ?_|refine zzb fun w hw => ?_|refine zzh fun _ => ?_|refine zzi fun _ _ => ?_|refine zzj (fun _ => ?_) fun _ => ?_)))))
      refine WL_callT (r := []) zent rfl rfl rfl hwd ?_
      intro x3 G3 h3 g3
      have hfin := hfin x3 G3
      by_cases h200 : 200 < e.toks.length
      · ((repeat' (first|refine zza ?_|refine zc9 ?_|refine zzb fun w hw => ?_|refine zzh fun _ => ?_|refine zzi fun _ _ => ?_|refine zzj (fun _ => ?_) fun _ => ?_)); (repeat' (refine CW_seq ?_; (repeat' (first|refine zza ?_|refine zc9 ?_|refine zzb fun w hw => ?_|refine zzh fun _ => ?_|refine zzi fun _ _ => ?_|refine zzj (fun _ => ?_) fun _ => ?_)))))
        exact (hfin _ g3 h3 hw).1 h200
      · ((repeat' (first|refine zza ?_|refine zc9 ?_|refine zzb fun w hw => ?_|refine zzh fun _ => ?_|refine zzi fun _ _ => ?_|refine zzj (fun _ => ?_) fun _ => ?_)); (repeat' (refine CW_seq ?_; (repeat' (first|refine zza ?_|refine zc9 ?_|refine zzb fun w hw => ?_|refine zzh fun _ => ?_|refine zzi fun _ _ => ?_|refine zzj (fun _ => ?_) fun _ => ?_)))))
        exact (hfin _ g3 h3 hw).2 h200
    · cases ht0
end Go.Proofs.YtanbifmcnkhdhaaGreatDoor
