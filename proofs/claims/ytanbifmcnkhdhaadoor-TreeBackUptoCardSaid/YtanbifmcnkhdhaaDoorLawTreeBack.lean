/-
  The law TreeBack.
-/
import Derived.Test.YtanbifmcnkhdhaaDoorGo
import Derived.Test.YtanbifmcnkhdhaaDoorBrackets
import Derived.Test.YtanbifmcnkhdhaaDoorLaidN
import Derived.Test.YtanbifmcnkhdhaaDoorSameNod
import Derived.Test.YtanbifmcnkhdhaaDoorPar
import Derived.Test.YtanbifmcnkhdhaaDoorParA
import Derived.Test.YtanbifmcnkhdhaaDoorPrintBack
namespace Go.Proofs.YtanbifmcnkhdhaaDoor
open Go.RowKit

noncomputable def prtV (L : List Nod) (z : Option Addr × Nat) : Value := .tuple #[.slice z.1 (printF L).2.length z.2, errV 48 (printF L).1]
theorem print_law (p : Option Addr) (c : Nat) (L : List NodM) (W : World) (hR : Row nodE 7 W.cell? p c L) (hB : ∀ x ∈ L, NodG W.cell? x) (hN : ∀ x ∈ L, x.nums.xs.length ≤ 1048576) (hG : GlobA W) :
    Calls Tryd.prog 4 #[.slice p L.length c] W fun e w' => ∃ z : Option Addr × Nat, e = .returned (prtV (L.map NodM.nod) z) ∧ Below W.heap.size W w' ∧ (Row tokE 5 w'.cell? z.1 z.2 (printF (L.map NodM.nod)).2 ∧ Rd.le W.cell? w'.cell?) :=
  tree_Print p c L W hR hB hN hG
def subM : NodM := ⟨6, 0, 2, 0, 0, ⟨none, 0, []⟩, []⟩
def varM : NodM := ⟨3, 0, 0, 0, 0, ⟨none, 0, []⟩, [97]⟩
theorem numsP_of {G : Rd} {L : List NodM} (h : ∀ x ∈ L, NodG G x) : ∀ n ∈ L.map NodM.nod, NumsP n := fun n hn => by
  obtain ⟨x, hx, rfl⟩ := List.mem_map.1 hn
  exact ⟨(h x hx).numsR, (h x hx).text⟩
set_option maxHeartbeats 8000000 in
set_option maxRecDepth 100000 in
theorem law_TreeBack (p : Option Addr) (c : Nat) (L : List NodM) (u0 : World) (hR : Row nodE 7 u0.cell? p c L) (hB : ∀ x ∈ L, NodG u0.cell? x) (hN : ∀ x ∈ L, x.nums.xs.length ≤ 1048576) (hG : GlobA u0) :
    Calls Tryd.prog 3 #[.slice p L.length c] u0 fun e w' => e = .returned (.bool true) ∧ Below u0.heap.size u0 w' := by
  have hLl := hR.len
  refine enterR (G := u0.cell?) (args := [_]) (m := []) (F := []) (Rd.sub_cell u0) rfl Tryd.func3 rfl Tryd.ntmps3 (by simp) ?_
  ((repeat' (first|refine zza ?_|refine zc9 ?_|refine zzb fun w hw => ?_|refine zzh fun _ => ?_|refine zzi fun _ _ => ?_|refine zzj (fun _ => ?_) fun _ => ?_)); (repeat' (refine CW_seq ?_; (repeat' (first|refine zza ?_|refine zc9 ?_|refine zzb fun w hw => ?_|refine zzh fun _ => ?_|refine zzi fun _ _ => ?_|refine zzj (fun _ => ?_) fun _ => ?_)))))
  rename_i b2
  refine WL_ent (m' := [blk b2 33 ([subM, varM].flatMap nodE).toArray, ro u0 [] u0.cell?]) (Ent.consK (k := Ent.cons .here Ent.nil) .here) ?_
  have hfact : ∀ x ∈ [subM, varM], ∀ G : Rd, NodG G x := fun x hx G => by
    simp only [List.mem_cons, List.not_mem_nil, or_false] at hx
    rcases hx with rfl | rfl
    · exact ⟨by simp [subM], Row.nil _ _ _, by simp [subM], by simp [subM], by simp [subM, I64], by simp [subM, I64], by simp [subM, I64], by simp [subM, I64], by simp [subM, I64]⟩
    · exact ⟨by simp [varM], Row.nil _ _ _, by simp [varM], by simp [varM], by simp [varM, I64], by simp [varM, I64], by simp [varM, I64], by simp [varM, I64], by simp [varM, I64]⟩
  have hfn : ∀ x ∈ [subM, varM], x.nums.xs.length ≤ 1048576 := fun x hx => by
    simp only [List.mem_cons, List.not_mem_nil, or_false] at hx
    rcases hx with rfl | rfl <;> simp [subM, varM]
  refine WL_callA (X := Option Addr × Nat) (V := prtV [subN, varN]) (Φ := fun z G => Row tokE 5 G z.1 z.2 [tokG 2, ⟨3, 0, 0, [97], 0⟩] ∧ Rd.le u0.cell? G) rfl rfl rfl rfl (fun W hW => (print_law (some ⟨b2, 0, none⟩) 2 [subM, varM] W (row_blk (enc := nodE) (xs := [subM, varM]) hW .here (fun _ => rfl) (by simp)) (fun x hx => hfact x hx _) hfn (hG.below hW.below)).mono fun e w' ⟨z, h1, h2, h3, h4⟩ => ⟨z, h1, h2, by rw [show [subM, varM].map NodM.nod = [subN, varN] from rfl, fact_print] at h3; exact h3, fun a v e => h4 a v (hW.rd (.there .here) e)⟩) ?_
  clear hfact hfn
  rintro ⟨q1, k1⟩ G1 ⟨hr1, hle1⟩
  unfold prtV
  rw [fact_print]
  dsimp only at hr1 ⊢
  rw [errV_zero]
  obtain ⟨X, hX, hX2, t0, hX0, hX1⟩ : ∃ X : List Tok, X = [tokG 2, ⟨3, 0, 0, [97], 0⟩] ∧ X.length = 2 ∧ ∃ t0, X[0]? = some t0 ∧ t0.fn = 2 := ⟨_, rfl, rfl, tokG 2, rfl, rfl⟩
  rw [← hX] at hr1 ⊢
  have hXl : 0 < X.length := by omega
  rw [hX2]
  have hRG := hR.mono hle1
  clear hX
  ((repeat' (first|refine zza ?_|refine zc9 ?_|refine zzb fun w hw => ?_|refine zzh fun _ => ?_|refine zzi fun _ _ => ?_|refine zzj (fun _ => ?_) fun _ => ?_)); (repeat' (refine CW_seq ?_; (repeat' (first|refine zza ?_|refine zc9 ?_|refine zzb fun w hw => ?_|refine zzh fun _ => ?_|refine zzi fun _ _ => ?_|refine zzj (fun _ => ?_) fun _ => ?_)))))
  apply WL_op rfl rfl (y_indexN (i := 0) rfl rfl (Row.some_lt (i := 0) hr1 hXl) (by omega))
  ((repeat' (first|refine zza ?_|refine zc9 ?_|refine zzb fun w hw => ?_|refine zzh fun _ => ?_|refine zzi fun _ _ => ?_|refine zzj (fun _ => ?_) fun _ => ?_)); (repeat' (refine CW_seq ?_; (repeat' (first|refine zza ?_|refine zc9 ?_|refine zzb fun w hw => ?_|refine zzh fun _ => ?_|refine zzi fun _ _ => ?_|refine zzj (fun _ => ?_) fun _ => ?_)))))
  refine WL_callA (X := Option Addr × Nat) (V := prtV (L.map NodM.nod)) (Φ := fun z G => Row tokE 5 G z.1 z.2 (printF (L.map NodM.nod)).2 ∧ Rd.le u0.cell? G) rfl rfl rfl rfl (fun W hW => (print_law p c L W (hRG.mono (hW.le .here)) (fun x hx => (hB x hx).mono (Rd.le_trans hle1 (hW.le .here))) hN (hG.below hW.below)).mono fun e w' ⟨z, h1, h2, h3, h4⟩ => ⟨z, h1, h2, h3, Rd.le_trans hle1 (Rd.le_trans (hW.le .here) h4)⟩) ?_
  clear hRG hr1 hX2 hX0 hX1 hXl hle1
  rintro ⟨q2, k2⟩ G2 ⟨hr2, hle2⟩
  unfold prtV
  obtain ⟨er, ts, hP⟩ : ∃ a b, printF (L.map NodM.nod) = (a, b) := ⟨_, _, rfl⟩
  rw [hP] at hr2 ⊢
  dsimp only at hr2 ⊢
  by_cases her : er = 0
  case neg =>
    rw [errV_ne her]
    ((repeat' (first|refine zza ?_|refine zc9 ?_|refine zzb fun w hw => ?_|refine zzh fun _ => ?_|refine zzi fun _ _ => ?_|refine zzj (fun _ => ?_) fun _ => ?_)); (repeat' (refine CW_seq ?_; (repeat' (first|refine zza ?_|refine zc9 ?_|refine zzb fun w hw => ?_|refine zzh fun _ => ?_|refine zzi fun _ _ => ?_|refine zzj (fun _ => ?_) fun _ => ?_)))))
    exact ⟨rfl, hw.below⟩
  subst her
  rw [errV_zero]
  obtain ⟨hpar, htk⟩ := print_back hP (numsP_of hB)
  clear hP
  ((repeat' (first|refine zza ?_|refine zc9 ?_|refine zzb fun w hw => ?_|refine zzh fun _ => ?_|refine zzi fun _ _ => ?_|refine zzj (fun _ => ?_) fun _ => ?_)); (repeat' (refine CW_seq ?_; (repeat' (first|refine zza ?_|refine zc9 ?_|refine zzb fun w hw => ?_|refine zzh fun _ => ?_|refine zzi fun _ _ => ?_|refine zzj (fun _ => ?_) fun _ => ?_)))))
  refine WL_callA (X := List NodM × Option Addr × Nat) (V := parV ts) (Φ := fun z G => ParA ts z G ∧ Rd.le u0.cell? G) rfl rfl rfl rfl (fun W hW => (parse_law q2 k2 ts W (hr2.mono (hW.le .here)) htk (hG.below hW.below)).mono fun e w' ⟨z, h1, h2, h3, h4⟩ => ⟨z, h1, h2, h3, Rd.le_trans hle2 (Rd.le_trans (hW.le .here) h4)⟩) ?_
  clear hr2 hle2 htk
  rintro ⟨x3, q3, k3⟩ G3 ⟨⟨hx3, hr3, hg3⟩, hle3⟩
  unfold parV
  rw [hpar] at hx3 ⊢
  dsimp only at hx3 hr3 hg3 ⊢
  rw [errV_zero]
  have hX : ∀ x ∈ x3, Row encI 1 G3 x.nums.p x.nums.c x.nums.xs := fun x hx => (hg3 x hx).nums
  have hY : ∀ x ∈ L, Row encI 1 G3 x.nums.p x.nums.c x.nums.xs := fun x hx => ((hB x hx).mono hle3).nums
  have hR3 := hR.mono hle3
  clear hg3 hB hN hpar hle3 hR hG
  ((repeat' (first|refine zza ?_|refine zc9 ?_|refine zzb fun w hw => ?_|refine zzh fun _ => ?_|refine zzi fun _ _ => ?_|refine zzj (fun _ => ?_) fun _ => ?_)); (repeat' (refine CW_seq ?_; (repeat' (first|refine zza ?_|refine zc9 ?_|refine zzb fun w hw => ?_|refine zzh fun _ => ?_|refine zzi fun _ _ => ?_|refine zzj (fun _ => ?_) fun _ => ?_)))))
  (apply WL_callV; rfl; rfl; rfl; (intro W hW; exact same_Nodes q3 p k3 c x3 L W.cell? W (Rd.sub_cell W) (hr3.mono (hW.le .here)) (hR3.mono (hW.le .here)) (fun x hx => (hX x hx).mono (hW.le .here)) (fun x hx => (hY x hx).mono (hW.le .here)) hx3))
  ((repeat' (first|refine zza ?_|refine zc9 ?_|refine zzb fun w hw => ?_|refine zzh fun _ => ?_|refine zzi fun _ _ => ?_|refine zzj (fun _ => ?_) fun _ => ?_)); (repeat' (refine CW_seq ?_; (repeat' (first|refine zza ?_|refine zc9 ?_|refine zzb fun w hw => ?_|refine zzh fun _ => ?_|refine zzi fun _ _ => ?_|refine zzj (fun _ => ?_) fun _ => ?_)))))
  exact ⟨rfl, hw.below⟩
theorem open_TreeBack (x : SlV NodM) (w : World) (s : SlS nodE 7 NodS w 1048576 x) (L : LaidG w) :
    Calls Tryd.prog 3 #[x.val] w fun e w' => e = .returned (.bool true) ∧ Below w.heap.size w w' :=
  law_TreeBack x.p x.c x.xs w s.row (fun i hi => nodG_of (s.each i hi) (Nat.le_refl _)) (fun i hi => (s.each i hi).2.1.len) L.glob
end Go.Proofs.YtanbifmcnkhdhaaDoor
