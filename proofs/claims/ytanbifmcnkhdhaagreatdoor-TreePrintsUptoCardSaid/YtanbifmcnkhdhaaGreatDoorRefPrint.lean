/-
  ravelinref3: words put behind words.
-/
import Derived.Test.YtanbifmcnkhdhaaGreatDoorGo
import Derived.Test.YtanbifmcnkhdhaaGreatDoorRefA
import Derived.Test.YtanbifmcnkhdhaaGreatDoorOpenNod
import Derived.Test.YtanbifmcnkhdhaaGreatDoorPrintPlain
import Derived.Test.YtanbifmcnkhdhaaGreatDoorRetC
namespace Go.Proofs.YtanbifmcnkhdhaaGreatDoor
open Go.RowKit

theorem cells_tokA (x : Tok) : ∀ u ∈ tokE x, u.oneCell' = true := fun u hu => by
  simp only [tokE, List.mem_cons, List.not_mem_nil, or_false] at hu
  rcases hu with rfl | rfl | rfl | rfl | rfl <;> rfl
abbrev tokV (us : List Tok) (x : Option Addr × Nat) : Value := .slice x.1 us.length x.2
abbrev TokR (us : List Tok) (x : Option Addr × Nat) (G : Rd) : Prop := Row tokE 5 G x.1 x.2 us
set_option maxRecDepth 100000 in
theorem ref_sign1 (k : Int) (G : Rd) (w : World) (hS : Rd.sub G [] w) : Calls Tryz.prog 60 #[.int .i64 k] w (Tells (tokV [tokK k]) (TokR [tokK k]) G w) := by
  refine enterR (args := [_]) (m := []) (F := []) hS rfl Tryz.func60 rfl Tryz.ntmps60 (by simp) ?_
  clear hS
  ((repeat' (first|refine zza ?_|refine zc9 ?_|refine zzb fun w hw => ?_|refine zzh fun _ => ?_|refine zzi fun _ _ => ?_|refine zzj (fun _ => ?_) fun _ => ?_)); (repeat' (refine CW_seq ?_; (repeat' (first|refine zza ?_|refine zc9 ?_|refine zzb fun w hw => ?_|refine zzh fun _ => ?_|refine zzi fun _ _ => ?_|refine zzj (fun _ => ?_) fun _ => ?_)))))
  rename_i b
  exact Tells.sl (enc := tokE) (sz := 5) (V := tokV [tokK k]) (fun _ => rfl) (by decide) (some ⟨b, 0, none⟩, 1) (Rd.grow_refl _ _) (hw.ent (Ent.cons (.there .here) (Ent.blkSlN (n := 1) (sz := 5) (xs := [tokK k].flatMap tokE) .here (by kernel_rfl) rfl (by decide) Ent.nil))) (fun G' _ h => h)
set_option maxRecDepth 100000 in
theorem ref_joinTokens (a b : List Tok) (p q : Option Addr) (c d : Nat) (G : Rd) (w : World) (hS : Rd.sub G [] w) (ha : Row tokE 5 G p c a) (hb : Row tokE 5 G q d b) (hl : a.length + b.length ≤ 900000000) : Calls Tryz.prog 34 #[.slice p a.length c, .slice q b.length d] w (Tells (tokV (a ++ b)) (TokR (a ++ b)) G w) := by
  refine enterR (args := [_, _]) (m := []) (F := []) hS rfl Tryz.func34 rfl Tryz.ntmps34 (by simp) ?_
  clear hS
  ((repeat' (first|refine zza ?_|refine zc9 ?_|refine zzb fun w hw => ?_|refine zzh fun _ => ?_|refine zzi fun _ _ => ?_|refine zzj (fun _ => ?_) fun _ => ?_)); (repeat' (refine CW_seq ?_; (repeat' (first|refine zza ?_|refine zc9 ?_|refine zzb fun w hw => ?_|refine zzh fun _ => ?_|refine zzi fun _ _ => ?_|refine zzj (fun _ => ?_) fun _ => ?_)))))
  refine WL_ent (Ent.nilown (e := 30) (sz := 5) Ent.refl) ?_
  apply WL_appendRowG (enc := tokE) (sz := 5) (fun _ => rfl) (by decide) (fun x _ => cells_tokA x) ha rfl rfl .here (.there .here) (by omega) (by omega) rfl rfl
  intro q1 c1
  ((repeat' (first|refine zza ?_|refine zc9 ?_|refine zzb fun w hw => ?_|refine zzh fun _ => ?_|refine zzi fun _ _ => ?_|refine zzj (fun _ => ?_) fun _ => ?_)); (repeat' (refine CW_seq ?_; (repeat' (first|refine zza ?_|refine zc9 ?_|refine zzb fun w hw => ?_|refine zzh fun _ => ?_|refine zzi fun _ _ => ?_|refine zzj (fun _ => ?_) fun _ => ?_)))))
  apply WL_appendRowG (enc := tokE) (sz := 5) (fun _ => rfl) (by decide) (fun x _ => cells_tokA x) hb rfl rfl .here (.there .here) (by omega) (by omega) rfl rfl
  intro q2 c2
  rw [show 0 + a.length + b.length = (a ++ b).length by simp, show ([] ++ a.flatMap tokE) ++ b.flatMap tokE = (a ++ b).flatMap tokE by simp]
  ((repeat' (first|refine zza ?_|refine zc9 ?_|refine zzb fun w hw => ?_|refine zzh fun _ => ?_|refine zzi fun _ _ => ?_|refine zzj (fun _ => ?_) fun _ => ?_)); (repeat' (refine CW_seq ?_; (repeat' (first|refine zza ?_|refine zc9 ?_|refine zzb fun w hw => ?_|refine zzh fun _ => ?_|refine zzi fun _ _ => ?_|refine zzj (fun _ => ?_) fun _ => ?_)))))
  exact Tells.sl (enc := tokE) (fun _ => rfl) (by decide) (q2, c2) (Rd.grow_refl _ _) (hw.ent (Ent.cons (.there .here) (Ent.cons .here Ent.nil))) (fun G' _ h => h)
set_option maxRecDepth 100000 in
theorem ref_bracketed (a : List Tok) (must : Bool) (p : Option Addr) (c : Nat) (G : Rd) (w : World) (hS : Rd.sub G [] w) (ha : Row tokE 5 G p c a) (hl : a.length ≤ 800000000) : Calls Tryz.prog 61 #[.slice p a.length c, .bool must] w (Tells (tokV (closeT must a)) (TokR (closeT must a)) G w) := by
  refine enterR (args := [_, _]) (m := []) (F := []) hS rfl Tryz.func61 rfl Tryz.ntmps61 (by simp) ?_
  clear hS
  cases must with
  | false =>
    ((repeat' (first|refine zza ?_|refine zc9 ?_|refine zzb fun w hw => ?_|refine zzh fun _ => ?_|refine zzi fun _ _ => ?_|refine zzj (fun _ => ?_) fun _ => ?_)); (repeat' (refine CW_seq ?_; (repeat' (first|refine zza ?_|refine zc9 ?_|refine zzb fun w hw => ?_|refine zzh fun _ => ?_|refine zzi fun _ _ => ?_|refine zzj (fun _ => ?_) fun _ => ?_)))))
    exact Tells.val (p, c) (Rd.grow_refl _ _) hw ha
  | true =>
    ((repeat' (first|refine zza ?_|refine zc9 ?_|refine zzb fun w hw => ?_|refine zzh fun _ => ?_|refine zzi fun _ _ => ?_|refine zzj (fun _ => ?_) fun _ => ?_)); (repeat' (refine CW_seq ?_; (repeat' (first|refine zza ?_|refine zc9 ?_|refine zzb fun w hw => ?_|refine zzh fun _ => ?_|refine zzi fun _ _ => ?_|refine zzj (fun _ => ?_) fun _ => ?_)))))
    refine WL_callT (r := []) zent rfl rfl rfl (fun W hS => ref_sign1 5 G W hS) ?_
    intro x1 G1 h1 g1
    ((repeat' (first|refine zza ?_|refine zc9 ?_|refine zzb fun w hw => ?_|refine zzh fun _ => ?_|refine zzi fun _ _ => ?_|refine zzj (fun _ => ?_) fun _ => ?_)); (repeat' (refine CW_seq ?_; (repeat' (first|refine zza ?_|refine zc9 ?_|refine zzb fun w hw => ?_|refine zzh fun _ => ?_|refine zzi fun _ _ => ?_|refine zzj (fun _ => ?_) fun _ => ?_)))))
    refine WL_callT (r := []) zent rfl rfl rfl (fun W hS => ref_joinTokens [tokK 5] a x1.1 p x1.2 c G1 W hS h1 (ha.mono g1.1) (by simp; omega)) ?_
    intro x2 G2 h2 g2
    ((repeat' (first|refine zza ?_|refine zc9 ?_|refine zzb fun w hw => ?_|refine zzh fun _ => ?_|refine zzi fun _ _ => ?_|refine zzj (fun _ => ?_) fun _ => ?_)); (repeat' (refine CW_seq ?_; (repeat' (first|refine zza ?_|refine zc9 ?_|refine zzb fun w hw => ?_|refine zzh fun _ => ?_|refine zzi fun _ _ => ?_|refine zzj (fun _ => ?_) fun _ => ?_)))))
    refine WL_callT (r := []) zent rfl rfl rfl (fun W hS => ref_sign1 6 G2 W hS) ?_
    intro x3 G3 h3 g3
    ((repeat' (first|refine zza ?_|refine zc9 ?_|refine zzb fun w hw => ?_|refine zzh fun _ => ?_|refine zzi fun _ _ => ?_|refine zzj (fun _ => ?_) fun _ => ?_)); (repeat' (refine CW_seq ?_; (repeat' (first|refine zza ?_|refine zc9 ?_|refine zzb fun w hw => ?_|refine zzh fun _ => ?_|refine zzi fun _ _ => ?_|refine zzj (fun _ => ?_) fun _ => ?_)))))
    refine WL_callT (r := []) zent rfl rfl rfl (fun W hS => ref_joinTokens ([tokK 5] ++ a) [tokK 6] x2.1 x3.1 x2.2 x3.2 G3 W hS (h2.mono g3.1) h3 (by simp; omega)) ?_
    intro x4 G4 h4 g4
    ((repeat' (first|refine zza ?_|refine zc9 ?_|refine zzb fun w hw => ?_|refine zzh fun _ => ?_|refine zzi fun _ _ => ?_|refine zzj (fun _ => ?_) fun _ => ?_)); (repeat' (refine CW_seq ?_; (repeat' (first|refine zza ?_|refine zc9 ?_|refine zzb fun w hw => ?_|refine zzh fun _ => ?_|refine zzi fun _ _ => ?_|refine zzj (fun _ => ?_) fun _ => ?_)))))
    refine Tells.val x4 (Rd.grow_tr g1 (Rd.grow_tr g2 (Rd.grow_tr g3 g4))) (V := tokV (closeT true a)) hw ?_
    have e1 : closeT true a = ([tokK 5] ++ a) ++ [tokK 6] := by simp [closeT]
    rw [e1]
    exact h4
end Go.Proofs.YtanbifmcnkhdhaaGreatDoor
