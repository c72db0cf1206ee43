/-
  tree: are nodes a tree?
-/
import Derived.Test.YtngeooflfkpikaaGreatDoorYGo
import Derived.Test.YtngeooflfkpikaaGreatDoorYTree4
namespace Go.Proofs.YtngeooflfkpikaaGreatDoor
open Go.RowKit
theorem tree_Check (p : Option Addr) (c : Nat) (L : List NodM) (u0 : World) (hR : Row nodE 7 u0.cell? p c L) (hB : ∀ x ∈ L, NodG u0.cell? x) (hG : GlobA u0) :
    Calls Tryz.prog 15 #[.slice p L.length c] u0 fun e w' => e = .returned (errV 24 (treeF (L.map NodM.nod))) ∧ Below u0.heap.size u0 w' := by
  refine enterR (G := u0.cell?) (args := [_]) (m := []) (F := []) (Rd.sub_cell u0) rfl Tryz.func15 rfl Tryz.ntmps15 (by simp) ?_
  have hread : ∀ W : World, Below u0.heap.size u0 W → Calls Tryz.prog 38 #[.slice p L.length c] W fun e w' => ∃ v : Value, True ∧ e = .returned (.tuple #[v, errV 24 (treeF (L.map NodM.nod))]) ∧ Holds W [] [] w' := fun W hW => by
    have hle : Rd.le u0.cell? W.cell? := fun a v e => (hW.cell (cell_lt e)).trans e
    refine (tree_read p c L W (hR.mono hle) (fun x hx => (hB x hx).mono hle) (hG.below hW)).mono ?_
    rintro e w' (⟨z, ⟨h1, h2, h3⟩, rfl, _, hh⟩ | ⟨h1, rfl, hb⟩)
    · have h0 : treeF (L.map NodM.nod) = 0 := by unfold treeF; rw [List.length_map, if_neg (by omega), h1]; rfl
      exact ⟨z.2.2, trivial, by rw [h0, errV_zero], hh.ent Ent.nil⟩
    · exact ⟨.nilIface, trivial, rfl, ⟨Keep.ofBelow hb, [], rfl, by simp⟩⟩
  (repeat' (first|refine zza ?_|refine zc9 ?_|refine zzb fun w hw => ?_|refine zzh fun _ => ?_|refine zzi fun _ _ => ?_|refine zzj (fun _ => ?_) fun _ => ?_))
  (apply WL_callX; rfl; rfl; rfl; (intro W hW; exact hread W hW.below); intro _ _)
  (repeat' (first|refine zza ?_|refine zc9 ?_|refine zzb fun w hw => ?_|refine zzh fun _ => ?_|refine zzi fun _ _ => ?_|refine zzj (fun _ => ?_) fun _ => ?_))
  exact ⟨rfl, hw.below⟩
end Go.Proofs.YtngeooflfkpikaaGreatDoor
