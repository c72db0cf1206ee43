/-
  ravelinsame.Ints: of two slices that hold the same.
-/
import Derived.Test.YtanbifmcnkhdhaaDoorGo
import Derived.Test.YtanbifmcnkhdhaaDoorInst
import Derived.Test.YtanbifmcnkhdhaaDoorOpen
import Derived.Test.YtanbifmcnkhdhaaDoorTokRow
namespace Go.Proofs.YtanbifmcnkhdhaaDoor
open Go.RowKit

theorem ints_flat (xs : List Int) : xs.map (Value.int .i64) = xs.flatMap encI := by
  induction xs with
  | nil => rfl
  | cons x xs ih => rw [List.map_cons, List.flatMap_cons, ih]; rfl
theorem row_ints {w0 w : World} {F : List Nat} {m r : List HP} {e : TypeId} {n c : Nat} {p : Option Addr} {xs : List Int} (hh : Holds w0 F m w) (hp : Pick m (sl e 1 p n c (xs.map (Value.int .i64))) r) : Row encI 1 w.cell? p c xs := by
  rw [ints_flat] at hp
  exact (row_sl (enc := encI) (sz := 1) (fun _ => rfl) Nat.one_pos hh hp).2
set_option maxRecDepth 100000 in
theorem same_Ints (p q : Option Addr) (c d n : Nat) (xs : List Int) (hn : xs.length = n) (w : World) (hx : Row encI 1 w.cell? p c xs) (hy : Row encI 1 w.cell? q d xs) :
    Calls Tryd.prog 13 #[.slice p n c, .slice q n d] w fun e w' => e = .returned (.bool true) ∧ Below w.heap.size w w' := by
  subst hn
  have hlen := hx.len
  refine enterR (G := w.cell?) (args := [_, _]) (m := []) (Rd.sub_cell w) rfl Tryd.func13 rfl Tryd.ntmps13 (by simp) ?_
  (repeat' (first|refine zza ?_|refine zc9 ?_|refine zzb fun w hw => ?_|refine zzh fun _ => ?_|refine zzi fun _ _ => ?_|refine zzj (fun _ => ?_) fun _ => ?_))
  refine CW_loopK [(0,_),(1,_)] zcov (fun x : Nat => [(5, .int .i64 x)]) (fun _ => [ro w [] w.cell?]) (fun x => x ≤ xs.length) (fun x => xs.length - x) 0 (Nat.zero_le _) zcov zent ?_
  rintro k hk
  by_cases hlt : k < xs.length
  · obtain ⟨u, hu⟩ : ∃ u, xs[k]? = some u := ⟨xs[k], by simp [hlt]⟩
    have hnn : ¬ u ≠ u := fun h => h rfl
    (repeat' (first|refine zza ?_|refine zc9 ?_|refine zzb fun w hw => ?_|refine zzh fun _ => ?_|refine zzi fun _ _ => ?_|refine zzj (fun _ => ?_) fun _ => ?_))
    apply WQ_op rfl rfl (y_load rfl (rd_row (enc := encI) hx zpk hu))
    (repeat' (first|refine zza ?_|refine zc9 ?_|refine zzb fun w hw => ?_|refine zzh fun _ => ?_|refine zzi fun _ _ => ?_|refine zzj (fun _ => ?_) fun _ => ?_))
    apply WQ_op rfl rfl (y_load rfl (rd_row (enc := encI) hy zpk hu))
    (repeat' (first|refine zza ?_|refine zc9 ?_|refine zzb fun w hw => ?_|refine zzh fun _ => ?_|refine zzi fun _ _ => ?_|refine zzj (fun _ => ?_) fun _ => ?_))
    exact EX_loop' (k + 1) ⟨zcov, zent, by omega, by omega⟩
  · have hkl : k = xs.length := by omega
    subst hkl
    (repeat' (first|refine zza ?_|refine zc9 ?_|refine zzb fun w hw => ?_|refine zzh fun _ => ?_|refine zzi fun _ _ => ?_|refine zzj (fun _ => ?_) fun _ => ?_))
    exact ⟨rfl, hw.below⟩
end Go.Proofs.YtanbifmcnkhdhaaDoor
