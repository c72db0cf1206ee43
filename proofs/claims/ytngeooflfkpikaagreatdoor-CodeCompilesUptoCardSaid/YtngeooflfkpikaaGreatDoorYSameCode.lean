/-
  ravelinsame.Ints: of two slices that hold the same.
  ravelinsame.Code: code that is the same is told to be.
-/
import Derived.Test.YtngeooflfkpikaaGreatDoorYGo
import Derived.Test.YtngeooflfkpikaaGreatDoorYInst
import Derived.Test.YtngeooflfkpikaaGreatDoorYOpen
import Derived.Test.YtngeooflfkpikaaGreatDoorYPar
import Derived.Test.YtngeooflfkpikaaGreatDoorYOpenIns
import Derived.Test.YtngeooflfkpikaaGreatDoorYRefTree
namespace Go.Proofs.YtngeooflfkpikaaGreatDoor
open Go.RowKit
set_option maxRecDepth 100000 in
theorem same_Ints (p q : Option Addr) (c d n : Nat) (xs : List Int) (hn : xs.length = n) (w : World) (hx : Row encI 1 w.cell? p c xs) (hy : Row encI 1 w.cell? q d xs) :
    Calls Tryz.prog 30 #[.slice p n c, .slice q n d] w fun e w' => e = .returned (.bool true) ∧ Below w.heap.size w w' := by
  subst hn
  have hlen := hx.len
  refine enterR (G := w.cell?) (args := [_, _]) (m := []) (Rd.sub_cell w) rfl Tryz.func30 rfl Tryz.ntmps30 (by simp) ?_
  (repeat' (first|refine zza ?_|refine zc9 ?_|refine zzb fun w hw => ?_|refine zzh fun _ => ?_|refine zzi fun _ _ => ?_|refine zzj (fun _ => ?_) fun _ => ?_))
  refine CW_loopK [(0,_),(1,_)] zcov (fun x : Nat => [(5, .int .i64 x)]) (fun _ => [ro w [] w.cell?]) (fun x => x ≤ xs.length) (fun x => xs.length - x) 0 (Nat.zero_le _) zcov zent ?_
  rintro k hk
  by_cases hlt : k < xs.length
  · obtain ⟨u, hu⟩ : ∃ u, xs[k]? = some u := ⟨xs[k], by simp [hlt]⟩
    have hnn : ¬ u ≠ u := fun h => h rfl
    (repeat' (first|refine zza ?_|refine zc9 ?_|refine zzb fun w hw => ?_|refine zzh fun _ => ?_|refine zzi fun _ _ => ?_|refine zzj (fun _ => ?_) fun _ => ?_))
    apply WQ_op rfl rfl (y_load rfl (rd_row (enc := encI) hx zpk hu))
    (repeat' (first|refine zza ?_|refine zc9 ?_|refine zzb fun w hw => ?_|refine zzh fun _ => ?_|refine zzi fun _ _ => ?_|refine zzj (fun _ => ?_) fun _ => ?_))
    apply WQ_op rfl rfl (y_load rfl (rd_row (enc := encI) hy zpk hu))
    (repeat' (first|refine zza ?_|refine zc9 ?_|refine zzb fun w hw => ?_|refine zzh fun _ => ?_|refine zzi fun _ _ => ?_|refine zzj (fun _ => ?_) fun _ => ?_))
    exact EX_loop' (k + 1) ⟨zcov, zent, by omega, by omega⟩
  · have hkl : k = xs.length := by omega
    subst hkl
    (repeat' (first|refine zza ?_|refine zc9 ?_|refine zzb fun w hw => ?_|refine zzh fun _ => ?_|refine zzi fun _ _ => ?_|refine zzj (fun _ => ?_) fun _ => ?_))
    exact ⟨rfl, hw.below⟩
end Go.Proofs.YtngeooflfkpikaaGreatDoor
namespace Go.Proofs.YtngeooflfkpikaaGreatDoor
open Go.RowKit
/-- some of an element's cells -/
theorem rd_rowS {K : Cx} {m r : List HP} {G : Rd} {α : Type} {enc : α → List Value} {sz c i j : Nat} {p : Option Addr} {xs : List α} {u : α} {l : List Value} (hR : Row enc sz G p c xs) (hp : Pick m (ro K.w0 K.F G) r) (hu : xs[i]? = some u) (hv : ((enc u).drop j).take l.length = l) : RdC K m ((addrAt p (i * sz)).add j) l := rd_G hp fun k v hk => by
  rw [Go.Deep.add_add]
  refine hR.cell i u hu (j + k) v ?_
  rw [← hv, List.getElem?_take] at hk
  split at hk
  · rwa [List.getElem?_drop] at hk
  · cases hk
set_option maxHeartbeats 8000000 in
set_option maxRecDepth 100000 in
theorem same_Code (p q : Option Addr) (c k : Nat) (xs ys : List InsM) (G : Rd) (u0 : World) (hS : Rd.sub G [] u0) (hX : Row insE 8 G p c xs) (hY : Row insE 8 G q k ys) (hXn : ∀ x ∈ xs, Row encI 1 G x.nums.p x.nums.c x.nums.xs) (hYn : ∀ x ∈ ys, Row encI 1 G x.nums.p x.nums.c x.nums.xs) (h : xs.map InsM.ins = ys.map InsM.ins) :
    Calls Tryz.prog 10 #[.slice p xs.length c, .slice q ys.length k] u0 fun e w' => e = .returned (.bool true) ∧ Below u0.heap.size u0 w' := by
  have hl : xs.length = ys.length := by have := congrArg List.length h; simpa using this
  have hXl := hX.len
  refine enterR (G := G) (args := [_, _]) (m := []) (F := []) hS rfl Tryz.func10 rfl Tryz.ntmps10 (by simp) ?_
  (repeat' (first|refine zza ?_|refine zc9 ?_|refine zzb fun w hw => ?_|refine zzh fun _ => ?_|refine zzi fun _ _ => ?_|refine zzj (fun _ => ?_) fun _ => ?_))
  refine CW_loopP [(0,_),(1,_)] zcov (fun i : Nat => [(5, .int .i64 (i : Int))]) (fun i => i ≤ xs.length) (fun i => xs.length - i) 0 (Nat.zero_le _) zcov ?_
  intro i hi
  by_cases hlt : i < xs.length
  · have hlt2 : i < ys.length := by omega
    obtain ⟨x, hx⟩ : ∃ x, xs[i]? = some x := ⟨xs[i], by simp [hlt]⟩
    obtain ⟨y, hy⟩ : ∃ y, ys[i]? = some y := ⟨ys[i], by simp [hlt2]⟩
    have hxy : x.ins = y.ins := by
      have := congrArg (fun l => l[i]?) h
      simp only [List.getElem?_map, hx, hy, Option.map_some] at this
      injection this
    have hnx := hXn x (List.mem_of_getElem? hx)
    have hny := hYn y (List.mem_of_getElem? hy)
    have e1 : x.op = y.op := congrArg Ins.op hxy
    have e2 : x.aop = y.aop := congrArg Ins.aop hxy
    have e3 : x.af = y.af := congrArg Ins.af hxy
    have e4 : x.ag = y.ag := congrArg Ins.ag hxy
    have e5 : x.n = y.n := congrArg Ins.n hxy
    have e6 : x.dst = y.dst := congrArg Ins.to hxy
    have e7 : x.nums.xs = y.nums.xs := congrArg Ins.nums hxy
    have e8 : x.text = y.text := congrArg Ins.text hxy
    clear hXn hYn h hxy
    (repeat' (first|refine zza ?_|refine zc9 ?_|refine zzb fun w hw => ?_|refine zzh fun _ => ?_|refine zzi fun _ _ => ?_|refine zzj (fun _ => ?_) fun _ => ?_))
    rw [← e7]
    have hny' : Row encI 1 G y.nums.p y.nums.c x.nums.xs := by rw [e7]; exact hny
    (apply WQ_callV; rfl; rfl; rfl; (intro W hW; exact same_Ints x.nums.p y.nums.p x.nums.c y.nums.c x.nums.xs.length x.nums.xs rfl W (hnx.mono (hW.le .here)) (hny'.mono (hW.le .here))))
    clear hnx hny hny' e7
    (repeat' (first|refine zza ?_|refine zc9 ?_|refine zzb fun w hw => ?_|refine zzh fun _ => ?_|refine zzi fun _ _ => ?_|refine zzj (fun _ => ?_) fun _ => ?_))
    apply WQ_op rfl rfl (y_loadA (zs := [.int .i64 0, .int .i64 0, .int .i64 0]) (cs := [.int .i64 x.aop, .int .i64 x.af, .int .i64 x.ag]) rfl (rd_rowS (enc := insE) hX .here hx rfl) rfl)
    (repeat' (first|refine zza ?_|refine zc9 ?_|refine zzb fun w hw => ?_|refine zzh fun _ => ?_|refine zzi fun _ _ => ?_|refine zzj (fun _ => ?_) fun _ => ?_))
    apply WQ_op rfl rfl (y_loadA (zs := [.int .i64 0, .int .i64 0, .int .i64 0]) (cs := [.int .i64 y.aop, .int .i64 y.af, .int .i64 y.ag]) rfl (rd_rowS (enc := insE) hY .here hy rfl) rfl)
    rw [← e2, ← e3, ← e4]
    apply WQ_op rfl rfl (y_neS (b := true) rfl rfl (by simp [cellsE, cellE]))
    clear e2 e3 e4
    (repeat' (first|refine zza ?_|refine zc9 ?_|refine zzb fun w hw => ?_|refine zzh fun _ => ?_|refine zzi fun _ _ => ?_|refine zzj (fun _ => ?_) fun _ => ?_))
    exact EX_loop' (i + 1) ⟨zcov, zent, by omega, by omega⟩
  · (repeat' (first|refine zza ?_|refine zc9 ?_|refine zzb fun w hw => ?_|refine zzh fun _ => ?_|refine zzi fun _ _ => ?_|refine zzj (fun _ => ?_) fun _ => ?_))
    exact ⟨rfl, hw.below⟩
end Go.Proofs.YtngeooflfkpikaaGreatDoor
