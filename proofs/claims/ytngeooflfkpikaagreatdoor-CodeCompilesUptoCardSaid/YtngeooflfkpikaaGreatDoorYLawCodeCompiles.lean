/-
  ravelinref4: Compiled, whole; the law CodeCompiles.
-/
import Derived.Test.YtngeooflfkpikaaGreatDoorYGo
import Derived.Test.YtngeooflfkpikaaGreatDoorYRefCompS
import Derived.Test.YtngeooflfkpikaaGreatDoorYCode8
import Derived.Test.YtngeooflfkpikaaGreatDoorYSameCode
import Derived.Test.YtngeooflfkpikaaGreatDoorYLaidF
import Derived.Test.YtngeooflfkpikaaGreatDoorYTreeChk
namespace Go.Proofs.YtngeooflfkpikaaGreatDoor
open Go.RowKit
mutual
theorem Ex.dfns_le : ∀ e : Ex, e.dfns ≤ e.flat.length
  | .leaf _ => Nat.zero_le _
  | .one n b r => by
    have h1 := Exs.dfns_le b
    have h2 := Ex.dfns_le r
    simp only [Ex.dfns, Ex.flat, List.length_cons, List.length_append]
    split <;> omega
  | .two n l b r => by
    have h1 := Exs.dfns_le b
    have h2 := Ex.dfns_le r
    have h3 := Ex.dfns_le l
    simp only [Ex.dfns, Ex.flat, List.length_cons, List.length_append]
    split <;> omega
  | .pick n o b => by
    have h1 := Exs.dfns_le b
    have h2 := Ex.dfns_le o
    simp only [Ex.dfns, Ex.flat, List.length_cons, List.length_append]
    omega
theorem Exs.dfns_le : ∀ b : Exs, b.dfns ≤ b.flat.length
  | .nil => Nat.zero_le _
  | .cons e r => by
    have h1 := Ex.dfns_le e
    have h2 := Exs.dfns_le r
    simp only [Exs.dfns, Exs.flat, List.length_append]
    omega
end
/-- the code of a line of nodes -/
noncomputable def codeF (l : List Nod) : List Ins := if treeF l = 0 then (match treeG l with
  | some t => compC (startL t) t.2
  | none => []) else []
set_option maxHeartbeats 8000000 in
set_option maxRecDepth 100000 in
theorem ref_Compiled (p : Option Addr) (c : Nat) (L : List NodM) (G : Rd) (W : World) (hS : Rd.sub G [] W) (hR : Row nodE 7 G p c L) (hB : ∀ x ∈ L, NodG G x) :
    Calls Tryz.prog 7 #[.slice p L.length c] W (Tells compV (CompR (treeF (L.map NodM.nod)) (codeF (L.map NodM.nod))) G W) := by
  have hT := fun (W' : World) (hle : Rd.le G W'.cell?) => ref_TreeFault p c L W' (hR.mono hle) (fun x hx => (hB x hx).mono hle)
  by_cases hf : treeF (L.map NodM.nod) = 0
  · have h400 : L.length ≤ 400 := by
      unfold treeF at hf
      rw [List.length_map] at hf
      split at hf
      · cases hf
      · omega
    obtain ⟨t, ht⟩ : ∃ t, treeG (L.map NodM.nod) = some t := by
      unfold treeF at hf
      rw [List.length_map, if_neg (by omega)] at hf
      cases hx : treeG (L.map NodM.nod) with
      | none => rw [hx] at hf; cases hf
      | some t => exact ⟨t, rfl⟩
    have hcode : codeF (L.map NodM.nod) = compC (startL t) t.2 := by unfold codeF; rw [if_pos hf, ht]
    obtain ⟨n, r, hnr, hok, hdr, hcase⟩ := treeG_some ht
    have hpos : 0 < L.length := by have := congrArg List.length hnr; simp at this; omega
    obtain ⟨x0, hx0⟩ : ∃ x0, L[0]? = some x0 := ⟨L[0], by simp [hpos]⟩
    have hx0n : x0.nod = n := by
      have := congrArg (fun l => l[0]?) hnr
      simp only [List.getElem?_map, hx0, Option.map_some, List.getElem?_cons_zero] at this
      injection this
    have hdr' : (L.map NodM.nod).drop (startL t) = t.2.flat ++ [] := by rw [hdr, List.append_nil]
    have hfl : t.2.flat.length ≤ 400 := by
      have := congrArg List.length hdr
      rw [List.length_drop, List.length_map] at this
      omega
    have hrun := RunI.start (L := L.map NodM.nod) (e := t.2) (p := startL t) (rest := []) hok hdr'
    have htl := Ex.tot_le t.2 0 hok
    have hdl := t.2.dfns_le
    have hpl := Ex.pcs_le t.2 (startL t)
    have hwl : (wsE (startL t) t.2).length = (t.2.waits 0 (startL t)).length := by unfold wsE; rw [List.length_map]
    have hpc := fun (G' : Rd) (hg : Rd.grow W G G') (W' : World) hS => pcs_ex t.2 p c L (startL t) 0 [] G' W' hok hdr' h400 (hR.mono hg.1) (fun x hx => (hB x hx).mono hg.1) hS
    have hq := fun q c' z0 (G' : Rd) g0 hz0 f hrun => comp_queue p c L h400 t.2 (startL t) hok (t.2.tot + 1) (t.2.dfns + 1) (by omega) (by omega) q c' z0 G G' W g0 hR hB hz0 f hrun
    rw [hf] at hT
    rw [hf, hcode]
    have hst : ∃ s : Nat, s = startL t ∧ ((s = 1 ∧ x0.op = 9) ∨ (s = 0 ∧ ¬ x0.op = 9)) := by
      refine ⟨startL t, rfl, ?_⟩
      unfold startL
      rcases hcase with ⟨h1, h2, _, _⟩ | ⟨h1, h2, _⟩
      · rw [h1]
        exact .inl ⟨rfl, by rw [← hx0n] at h2; exact h2⟩
      · rw [h1]
        exact .inr ⟨rfl, by rw [← hx0n] at h2; exact h2⟩
    obtain ⟨s, hs, hcs⟩ := hst
    rw [← hs] at hrun hpc hq hwl hpl ⊢
    generalize hwo : wsE s t.2 = wo at hrun hpc hwl ⊢
    clear hs hwo hcase hdr' hdr hnr hx0n hcode ht hf n r
    refine enterR (args := [_]) (m := []) (F := []) hS rfl Tryz.func7 rfl Tryz.ntmps7 (by simp) ?_
    clear hS
    rcases hcs with ⟨rfl, h9⟩ | ⟨rfl, h9⟩
    · clear hB htl hdl
      ((repeat' (first|refine zza ?_|refine zc9 ?_|refine zzb fun w hw => ?_|refine zzh fun _ => ?_|refine zzi fun _ _ => ?_|refine zzj (fun _ => ?_) fun _ => ?_)); (repeat' (refine CW_seq ?_; (repeat' (first|refine zza ?_|refine zc9 ?_|refine zzb fun w hw => ?_|refine zzh fun _ => ?_|refine zzi fun _ _ => ?_|refine zzj (fun _ => ?_) fun _ => ?_)))))
      (apply WL_callV; rfl; rfl; rfl; (intro W hW; exact hT W (hW.le .here)))
      clear hT
      ((repeat' (first|refine zza ?_|refine zc9 ?_|refine zzb fun w hw => ?_|refine zzh fun _ => ?_|refine zzi fun _ _ => ?_|refine zzj (fun _ => ?_) fun _ => ?_)); (repeat' (refine CW_seq ?_; (repeat' (first|refine zza ?_|refine zc9 ?_|refine zzb fun w hw => ?_|refine zzh fun _ => ?_|refine zzi fun _ _ => ?_|refine zzj (fun _ => ?_) fun _ => ?_)))))
      refine WL_callT (r := []) (Ent.cons zpk Ent.nil) rfl rfl rfl (fun W' hS => hpc G (Rd.grow_refl _ _) W' hS) ?_
      clear hpc
      intro y1 G1 h1 g1
      ((repeat' (first|refine zza ?_|refine zc9 ?_|refine zzb fun w hw => ?_|refine zzh fun _ => ?_|refine zzi fun _ _ => ?_|refine zzj (fun _ => ?_) fun _ => ?_)); (repeat' (refine CW_seq ?_; (repeat' (first|refine zza ?_|refine zc9 ?_|refine zzb fun w hw => ?_|refine zzh fun _ => ?_|refine zzi fun _ _ => ?_|refine zzj (fun _ => ?_) fun _ => ?_)))))
      refine WL_callT (r := []) (Ent.cons zpk Ent.nil) rfl rfl rfl (fun W' hS => ref_single ⟨11, 0, 0, 0, 0, 0, ⟨none, 0, []⟩, []⟩ G1 W' hS ⟨by simp, Row.nil _ _ _, by simp⟩) ?_
      intro y2 G2 h2 g2
      refine WL_callT (r := []) (Ent.cons zpk Ent.nil) rfl rfl rfl (fun W' hS => ref_joinT t.2.pcs retI wo y1 y2 G2 W' hS (h1.mono g2.1) h2 (by omega) (by omega)) ?_
      intro y3 G3 h3 g3
      have hcy : cod (y3, wo) = t.2.pcs ++ [retI] := h3.eq
      have hrun' := hrun
      rw [← hcy] at hrun'
      have hz : PcR (cod (y3, wo)) wo y3 G3 := ⟨rfl, h3.good, h3.code, h3.waits⟩
      have hg := Rd.grow_tr g1 (Rd.grow_tr g2 g3)
      repeat' (first | exact CW_cov zcov (CW_ent (Ent.blkSlN (n := 1) (sz := 2) (xs := [(y3, wo)].flatMap pcE) .here (by kernel_rfl) rfl (by decide) (Ent.cons zpk Ent.nil)) (hq _ _ (y3, wo) G3 hg hz t.2.dfns hrun')) | refine zza ?_ | refine zzh fun _ => ?_)
    · clear hB htl hdl
      ((repeat' (first|refine zza ?_|refine zc9 ?_|refine zzb fun w hw => ?_|refine zzh fun _ => ?_|refine zzi fun _ _ => ?_|refine zzj (fun _ => ?_) fun _ => ?_)); (repeat' (refine CW_seq ?_; (repeat' (first|refine zza ?_|refine zc9 ?_|refine zzb fun w hw => ?_|refine zzh fun _ => ?_|refine zzi fun _ _ => ?_|refine zzj (fun _ => ?_) fun _ => ?_)))))
      (apply WL_callV; rfl; rfl; rfl; (intro W hW; exact hT W (hW.le .here)))
      clear hT
      ((repeat' (first|refine zza ?_|refine zc9 ?_|refine zzb fun w hw => ?_|refine zzh fun _ => ?_|refine zzi fun _ _ => ?_|refine zzj (fun _ => ?_) fun _ => ?_)); (repeat' (refine CW_seq ?_; (repeat' (first|refine zza ?_|refine zc9 ?_|refine zzb fun w hw => ?_|refine zzh fun _ => ?_|refine zzi fun _ _ => ?_|refine zzj (fun _ => ?_) fun _ => ?_)))))
      refine WL_callT (r := []) (Ent.cons zpk Ent.nil) rfl rfl rfl (fun W' hS => hpc G (Rd.grow_refl _ _) W' hS) ?_
      clear hpc
      intro y1 G1 h1 g1
      ((repeat' (first|refine zza ?_|refine zc9 ?_|refine zzb fun w hw => ?_|refine zzh fun _ => ?_|refine zzi fun _ _ => ?_|refine zzj (fun _ => ?_) fun _ => ?_)); (repeat' (refine CW_seq ?_; (repeat' (first|refine zza ?_|refine zc9 ?_|refine zzb fun w hw => ?_|refine zzh fun _ => ?_|refine zzi fun _ _ => ?_|refine zzj (fun _ => ?_) fun _ => ?_)))))
      refine WL_callT (r := []) (Ent.cons zpk Ent.nil) rfl rfl rfl (fun W' hS => ref_single ⟨11, 0, 0, 0, 0, 0, ⟨none, 0, []⟩, []⟩ G1 W' hS ⟨by simp, Row.nil _ _ _, by simp⟩) ?_
      intro y2 G2 h2 g2
      refine WL_callT (r := []) (Ent.cons zpk Ent.nil) rfl rfl rfl (fun W' hS => ref_joinT t.2.pcs retI wo y1 y2 G2 W' hS (h1.mono g2.1) h2 (by omega) (by omega)) ?_
      intro y3 G3 h3 g3
      have hcy : cod (y3, wo) = t.2.pcs ++ [retI] := h3.eq
      have hrun' := hrun
      rw [← hcy] at hrun'
      have hz : PcR (cod (y3, wo)) wo y3 G3 := ⟨rfl, h3.good, h3.code, h3.waits⟩
      have hg := Rd.grow_tr g1 (Rd.grow_tr g2 g3)
      repeat' (first | exact CW_cov zcov (CW_ent (Ent.blkSlN (n := 1) (sz := 2) (xs := [(y3, wo)].flatMap pcE) .here (by kernel_rfl) rfl (by decide) (Ent.cons zpk Ent.nil)) (hq _ _ (y3, wo) G3 hg hz t.2.dfns hrun')) | refine zza ?_ | refine zzh fun _ => ?_)
  · refine enterR (args := [_]) (m := []) (F := []) hS rfl Tryz.func7 rfl Tryz.ntmps7 (by simp) ?_
    have hcode : codeF (L.map NodM.nod) = [] := by unfold codeF; rw [if_neg hf]
    rw [hcode]
    clear hcode hS
    generalize treeF (L.map NodM.nod) = e at hT hf ⊢
    ((repeat' (first|refine zza ?_|refine zc9 ?_|refine zzb fun w hw => ?_|refine zzh fun _ => ?_|refine zzi fun _ _ => ?_|refine zzj (fun _ => ?_) fun _ => ?_)); (repeat' (refine CW_seq ?_; (repeat' (first|refine zza ?_|refine zc9 ?_|refine zzb fun w hw => ?_|refine zzh fun _ => ?_|refine zzi fun _ _ => ?_|refine zzj (fun _ => ?_) fun _ => ?_)))))
    (apply WL_callV; rfl; rfl; rfl; (intro W hW; exact hT W (hW.le .here)))
    ((repeat' (first|refine zza ?_|refine zc9 ?_|refine zzb fun w hw => ?_|refine zzh fun _ => ?_|refine zzi fun _ _ => ?_|refine zzj (fun _ => ?_) fun _ => ?_)); (repeat' (refine CW_seq ?_; (repeat' (first|refine zza ?_|refine zc9 ?_|refine zzb fun w hw => ?_|refine zzh fun _ => ?_|refine zzi fun _ _ => ?_|refine zzj (fun _ => ?_) fun _ => ?_)))))
    exact ⟨(e, [], none, 0), G, ⟨rfl, rfl, by simp, Row.nil _ _ _⟩, rfl, Rd.grow_refl _ _, hw.ent (Ent.cons zpk Ent.nil)⟩
/-- what Compile tells, in the same words -/
theorem comp_lawF (p : Option Addr) (c : Nat) (L : List NodM) (W : World) (hR : Row nodE 7 W.cell? p c L) (hB : ∀ x ∈ L, NodG W.cell? x) (hG : GlobA W) :
    Calls Tryz.prog 8 #[.slice p L.length c] W fun e w' => ∃ z : CX, e = .returned (.tuple #[.slice z.2.2.1 z.2.1.length z.2.2.2, errV 24 z.1]) ∧ Below W.heap.size W w' ∧ (CompR (treeF (L.map NodM.nod)) (codeF (L.map NodM.nod)) z w'.cell? ∧ Rd.le W.cell? w'.cell?) := by
  refine (code_Compile p c L W hR hB fun W' hb => tree_Check p c L W' (hR.mono (Rd.le_below hb)) (fun x hx => (hB x hx).mono (Rd.le_below hb)) (hG.below hb)).mono ?_
  rintro e w' (⟨⟨G, xs, q, t⟩, ⟨h1, h2, h3, h4, h5⟩, rfl, hg, hh⟩ | ⟨h1, rfl, hb⟩)
  · have hb := hh.below
    have hle := hh.le .here
    have h0 : treeF (L.map NodM.nod) = 0 := by unfold treeF; rw [List.length_map, if_neg (by omega), h1]; rfl
    exact ⟨(0, xs, q.1, q.2), by rw [errV_zero], hb, ⟨h0.symm, by unfold codeF; rw [if_pos h0, h1]; exact h3, fun x hx => (h4 x hx).mono hle, h5.mono hle⟩, Rd.le_below hb⟩
  · exact ⟨(treeF (L.map NodM.nod), [], none, 0), rfl, hb, ⟨rfl, by unfold codeF; rw [if_neg h1]; rfl, by simp, Row.nil _ _ _⟩, Rd.le_below hb⟩
set_option maxHeartbeats 8000000 in
set_option maxRecDepth 100000 in
theorem law_CodeCompiles (p : Option Addr) (c : Nat) (L : List NodM) (u0 : World) (hR : Row nodE 7 u0.cell? p c L) (hB : ∀ x ∈ L, NodG u0.cell? x) (hG : GlobA u0) (hH : Handle u0) :
    Calls Tryz.prog 3 #[.slice p L.length c] u0 fun e w' => e = .returned (.bool true) ∧ Below u0.heap.size u0 w' := by
  refine enterR (G := u0.cell?) (args := [_]) (m := []) (F := []) (Rd.sub_cell u0) rfl Tryz.func3 rfl Tryz.ntmps3 (by simp) ?_
  have href := fun (W : World) hS => ref_Compiled p c L u0.cell? W hS hR hB
  have hcomp := fun (W : World) (hW : Below u0.heap.size u0 W) => comp_lawF p c L W (hR.mono (fun a v e => (hW.cell (cell_lt e)).trans e)) (fun x hx => (hB x hx).mono (fun a v e => (hW.cell (cell_lt e)).trans e)) (hG.below hW)
  have hE := fun (e : Int) W (h : Handle W) => same_Error e e W h
  generalize treeF (L.map NodM.nod) = Z at href hcomp
  generalize codeF (L.map NodM.nod) = C at href hcomp
  clear hR hB hG
  simp only [decide_true] at hE
  ((repeat' (first|refine zza ?_|refine zc9 ?_|refine zzb fun w hw => ?_|refine zzh fun _ => ?_|refine zzi fun _ _ => ?_|refine zzj (fun _ => ?_) fun _ => ?_)); (repeat' (refine CW_seq ?_; (repeat' (first|refine zza ?_|refine zc9 ?_|refine zzb fun w hw => ?_|refine zzh fun _ => ?_|refine zzi fun _ _ => ?_|refine zzj (fun _ => ?_) fun _ => ?_)))))
  refine WL_callT (r := []) zent rfl rfl rfl href ?_
  clear href
  rintro ⟨e1, xs, q, k⟩ G1 ⟨h1, h2, h3, h4⟩ g1
  dsimp only at h1 h2 h3 h4
  subst h1
  ((repeat' (first|refine zza ?_|refine zc9 ?_|refine zzb fun w hw => ?_|refine zzh fun _ => ?_|refine zzi fun _ _ => ?_|refine zzj (fun _ => ?_) fun _ => ?_)); (repeat' (refine CW_seq ?_; (repeat' (first|refine zza ?_|refine zc9 ?_|refine zzb fun w hw => ?_|refine zzh fun _ => ?_|refine zzi fun _ _ => ?_|refine zzj (fun _ => ?_) fun _ => ?_)))))
  refine WL_callA (X := CX) (V := fun z => .tuple #[.slice z.2.2.1 z.2.1.length z.2.2.2, errV 24 z.1]) (Φ := fun z G => CompR e1 C z G ∧ Rd.le G1 G) rfl rfl rfl rfl (fun W hW => (hcomp W hW.below).mono fun e w' ⟨z, h1, h2, h3, h4⟩ => ⟨z, h1, h2, h3, Rd.le_trans (hW.le .here) h4⟩) ?_
  clear hcomp
  rintro ⟨e2, ys, q2, k2⟩ G2 ⟨⟨k1, k2', k3, k4⟩, hle⟩
  dsimp only at k1 k2' k3 k4 ⊢
  subst k1
  have heq : ys.map InsM.ins = xs.map InsM.ins := k2'.trans h2.symm
  have hX : ∀ x ∈ ys, Row encI 1 G2 x.nums.p x.nums.c x.nums.xs := fun x hx => (k3 x hx).nums
  have hY : ∀ x ∈ xs, Row encI 1 G2 x.nums.p x.nums.c x.nums.xs := fun x hx => ((h3 x hx).mono hle).nums
  have h4' := h4.mono hle
  clear h3 k3 h4 h2 k2' hle
  ((repeat' (first|refine zza ?_|refine zc9 ?_|refine zzb fun w hw => ?_|refine zzh fun _ => ?_|refine zzi fun _ _ => ?_|refine zzj (fun _ => ?_) fun _ => ?_)); (repeat' (refine CW_seq ?_; (repeat' (first|refine zza ?_|refine zc9 ?_|refine zzb fun w hw => ?_|refine zzh fun _ => ?_|refine zzi fun _ _ => ?_|refine zzj (fun _ => ?_) fun _ => ?_)))))
  (apply WL_callV; rfl; rfl; rfl; (intro W hW; exact hE e2 W (hH.below hW.below)))
  clear hE hH
  ((repeat' (first|refine zza ?_|refine zc9 ?_|refine zzb fun w hw => ?_|refine zzh fun _ => ?_|refine zzi fun _ _ => ?_|refine zzj (fun _ => ?_) fun _ => ?_)); (repeat' (refine CW_seq ?_; (repeat' (first|refine zza ?_|refine zc9 ?_|refine zzb fun w hw => ?_|refine zzh fun _ => ?_|refine zzi fun _ _ => ?_|refine zzj (fun _ => ?_) fun _ => ?_)))))
  (apply WL_callV; rfl; rfl; rfl; (intro W hW; exact same_Code q2 q k2 k ys xs W.cell? W (Rd.sub_cell W) (k4.mono (hW.le .here)) (h4'.mono (hW.le .here)) (fun x hx => (hX x hx).mono (hW.le .here)) (fun x hx => (hY x hx).mono (hW.le .here)) heq))
  ((repeat' (first|refine zza ?_|refine zc9 ?_|refine zzb fun w hw => ?_|refine zzh fun _ => ?_|refine zzi fun _ _ => ?_|refine zzj (fun _ => ?_) fun _ => ?_)); (repeat' (refine CW_seq ?_; (repeat' (first|refine zza ?_|refine zc9 ?_|refine zzb fun w hw => ?_|refine zzh fun _ => ?_|refine zzi fun _ _ => ?_|refine zzj (fun _ => ?_) fun _ => ?_)))))
  exact ⟨rfl, hw.below⟩
theorem open_CodeCompiles (x : SlV NodM) (w : World) (s : SlS nodE 7 NodS w 1048576 x) (L : LaidOk w) :
    Calls Tryz.prog 3 #[x.val] w fun e w' => e = .returned (.bool true) ∧ Below w.heap.size w w' :=
  law_CodeCompiles x.p x.c x.xs w s.row (fun i hi => nodG_of (s.each i hi) (Nat.le_refl _)) L.glob L.hand
end Go.Proofs.YtngeooflfkpikaaGreatDoor
