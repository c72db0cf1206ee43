/-
  The law TreePrints.
-/
import Derived.Test.YtanbifmcnkhdhaaGreatDoorGo
import Derived.Test.YtanbifmcnkhdhaaGreatDoorRefPrinted
import Derived.Test.YtanbifmcnkhdhaaGreatDoorTreeChk
import Derived.Test.YtanbifmcnkhdhaaGreatDoorSameTok
import Derived.Test.YtanbifmcnkhdhaaGreatDoorLaidF
namespace Go.Proofs.YtanbifmcnkhdhaaGreatDoor
open Go.RowKit

set_option maxHeartbeats 8000000 in
set_option maxRecDepth 100000 in
theorem law_TreePrints (p : Option Addr) (c : Nat) (L : List NodM) (u0 : World) (hR : Row nodE 7 u0.cell? p c L) (hB : ∀ x ∈ L, NodG u0.cell? x) (hN : ∀ x ∈ L, x.nums.xs.length ≤ 1048576) (hG : GlobA u0) (hH : Handle u0) :
    Calls Tryz.prog 4 #[.slice p L.length c] u0 fun e w' => e = .returned (.bool true) ∧ Below u0.heap.size u0 w' := by
  refine enterR (G := u0.cell?) (args := [_]) (m := []) (F := []) (Rd.sub_cell u0) rfl Tryz.func4 rfl Tryz.ntmps4 (by simp) ?_
  have hfault := fun (W : World) (hW : Below u0.heap.size u0 W) => ref_TreeFault p c L W (hR.mono (fun a v e => (hW.cell (cell_lt e)).trans e)) (fun x hx => (hB x hx).mono (fun a v e => (hW.cell (cell_lt e)).trans e))
  have hcheck := fun (W : World) (hW : Below u0.heap.size u0 W) => tree_Check p c L W (hR.mono (fun a v e => (hW.cell (cell_lt e)).trans e)) (fun x hx => (hB x hx).mono (fun a v e => (hW.cell (cell_lt e)).trans e)) (hG.below hW)
  have hprinted := fun (W : World) hS => ref_Printed p c L u0.cell? W hS hR hB hN
  have hprint := fun (W : World) (hW : Below u0.heap.size u0 W) => tree_Print p c L W (hR.mono (fun a v e => (hW.cell (cell_lt e)).trans e)) (fun x hx => (hB x hx).mono (fun a v e => (hW.cell (cell_lt e)).trans e)) hN (hG.below hW)
  have hE := fun (e : Int) W (h : Handle W) => same_Error e e W h
  unfold PrintA at hprint
  generalize treeF (L.map NodM.nod) = Z at *
  obtain ⟨er, ts, hP⟩ : ∃ a b, printF (L.map NodM.nod) = (a, b) := ⟨_, _, rfl⟩
  rw [hP] at hprinted hprint
  clear hP hR hB hN hG
  simp only [decide_true] at hE
  ((repeat' (first|refine zza ?_|refine zc9 ?_|refine zzb fun w hw => ?_|refine zzh fun _ => ?_|refine zzi fun _ _ => ?_|refine zzj (fun _ => ?_) fun _ => ?_)); (repeat' (refine CW_seq ?_; (repeat' (first|refine zza ?_|refine zc9 ?_|refine zzb fun w hw => ?_|refine zzh fun _ => ?_|refine zzi fun _ _ => ?_|refine zzj (fun _ => ?_) fun _ => ?_)))))
  (apply WL_callV; rfl; rfl; rfl; (intro W hW; exact hfault W hW.below))
  ((repeat' (first|refine zza ?_|refine zc9 ?_|refine zzb fun w hw => ?_|refine zzh fun _ => ?_|refine zzi fun _ _ => ?_|refine zzj (fun _ => ?_) fun _ => ?_)); (repeat' (refine CW_seq ?_; (repeat' (first|refine zza ?_|refine zc9 ?_|refine zzb fun w hw => ?_|refine zzh fun _ => ?_|refine zzi fun _ _ => ?_|refine zzj (fun _ => ?_) fun _ => ?_)))))
  (apply WL_callV; rfl; rfl; rfl; (intro W hW; exact hcheck W hW.below))
  ((repeat' (first|refine zza ?_|refine zc9 ?_|refine zzb fun w hw => ?_|refine zzh fun _ => ?_|refine zzi fun _ _ => ?_|refine zzj (fun _ => ?_) fun _ => ?_)); (repeat' (refine CW_seq ?_; (repeat' (first|refine zza ?_|refine zc9 ?_|refine zzb fun w hw => ?_|refine zzh fun _ => ?_|refine zzi fun _ _ => ?_|refine zzj (fun _ => ?_) fun _ => ?_)))))
  (apply WL_callV; rfl; rfl; rfl; (intro W hW; exact hE Z W (hH.below hW.below)))
  clear hfault hcheck
  ((repeat' (first|refine zza ?_|refine zc9 ?_|refine zzb fun w hw => ?_|refine zzh fun _ => ?_|refine zzi fun _ _ => ?_|refine zzj (fun _ => ?_) fun _ => ?_)); (repeat' (refine CW_seq ?_; (repeat' (first|refine zza ?_|refine zc9 ?_|refine zzb fun w hw => ?_|refine zzh fun _ => ?_|refine zzi fun _ _ => ?_|refine zzj (fun _ => ?_) fun _ => ?_)))))
  refine WL_callT (r := []) zent rfl rfl rfl hprinted ?_
  intro x1 G1 h1 g1
  clear hprinted
  ((repeat' (first|refine zza ?_|refine zc9 ?_|refine zzb fun w hw => ?_|refine zzh fun _ => ?_|refine zzi fun _ _ => ?_|refine zzj (fun _ => ?_) fun _ => ?_)); (repeat' (refine CW_seq ?_; (repeat' (first|refine zza ?_|refine zc9 ?_|refine zzb fun w hw => ?_|refine zzh fun _ => ?_|refine zzi fun _ _ => ?_|refine zzj (fun _ => ?_) fun _ => ?_)))))
  refine WL_callA (X := Option Addr × Nat) (V := fun x => .tuple #[.slice x.1 ts.length x.2, errV 36 er]) (Φ := fun z G => Row tokE 5 G z.1 z.2 ts ∧ Rd.le G1 G) rfl rfl rfl rfl (fun W hW => (hprint W hW.below).mono fun e w' ⟨z, h1, h2, h3, h4⟩ => ⟨z, h1, h2, h3, Rd.le_trans (hW.le .here) h4⟩) ?_
  clear hprint
  rintro x2 G2 ⟨h2, hle⟩
  ((repeat' (first|refine zza ?_|refine zc9 ?_|refine zzb fun w hw => ?_|refine zzh fun _ => ?_|refine zzi fun _ _ => ?_|refine zzj (fun _ => ?_) fun _ => ?_)); (repeat' (refine CW_seq ?_; (repeat' (first|refine zza ?_|refine zc9 ?_|refine zzb fun w hw => ?_|refine zzh fun _ => ?_|refine zzi fun _ _ => ?_|refine zzj (fun _ => ?_) fun _ => ?_)))))
  (apply WL_callV; rfl; rfl; rfl; (intro W hW; exact hE er W (hH.below hW.below)))
  ((repeat' (first|refine zza ?_|refine zc9 ?_|refine zzb fun w hw => ?_|refine zzh fun _ => ?_|refine zzi fun _ _ => ?_|refine zzj (fun _ => ?_) fun _ => ?_)); (repeat' (refine CW_seq ?_; (repeat' (first|refine zza ?_|refine zc9 ?_|refine zzb fun w hw => ?_|refine zzh fun _ => ?_|refine zzi fun _ _ => ?_|refine zzj (fun _ => ?_) fun _ => ?_)))))
  (apply WL_callV; rfl; rfl; rfl; (intro W hW; exact same_Toks x2.1 x1.1 x2.2 x1.2 ts W (h2.mono (hW.le .here)) ((h1.mono hle).mono (hW.le .here))))
  ((repeat' (first|refine zza ?_|refine zc9 ?_|refine zzb fun w hw => ?_|refine zzh fun _ => ?_|refine zzi fun _ _ => ?_|refine zzj (fun _ => ?_) fun _ => ?_)); (repeat' (refine CW_seq ?_; (repeat' (first|refine zza ?_|refine zc9 ?_|refine zzb fun w hw => ?_|refine zzh fun _ => ?_|refine zzi fun _ _ => ?_|refine zzj (fun _ => ?_) fun _ => ?_)))))
  exact ⟨rfl, hw.below⟩
theorem open_TreePrints (x : SlV NodM) (w : World) (s : SlS nodE 7 NodS w 1048576 x) (L : LaidOk w) :
    Calls Tryz.prog 4 #[x.val] w fun e w' => e = .returned (.bool true) ∧ Below w.heap.size w w' :=
  law_TreePrints x.p x.c x.xs w s.row (fun i hi => nodG_of (s.each i hi) (Nat.le_refl _)) (fun i hi => (s.each i hi).2.1.len) L.glob L.hand
end Go.Proofs.YtanbifmcnkhdhaaGreatDoor
