/-
  Functions that make an array of their own; instances of this program's maps.
  The package seek, walked: where each cell is first; the cells that are asked for.
  The package seek, walked: a pair of lists; the cells that are asked for.
-/
import Derived.Test.YtadlpfbjnpbnoaaGreatDoorZGo
import Derived.Test.YtadlpfbjnpbnoaaGreatDoorZSubL
import Derived.Test.YtadlpfbjnpbnoaaGreatDoorZStpM
import Derived.Test.YtadlpfbjnpbnoaaGreatDoorZReshape
namespace Go.Proofs.YtadlpfbjnpbnoaaGreatDoor
open Go.RowKit
abbrev own1 (z : Option Addr × Nat) (xs : List Int) : HP := sl 3 1 z.1 xs.length z.2 (xs.map (Value.int .i64))
abbrev ownV (x : Arr) (z : (Option Addr × Nat) × Option Addr × Nat) : Value := .agg #[.bool x.char, .slice z.1.1 x.shape.length z.1.2, .slice z.2.1 x.data.length z.2.2]
abbrev ownM (x : Arr) (z : (Option Addr × Nat) × Option Addr × Nat) : List HP := [own1 z.1 x.shape, own1 z.2 x.data]
/-- what a function tells: an array of its own -/
def OwnA (x : Arr) (w : World) (e : Ending) (w' : World) : Prop := ∃ z, True ∧ e = .returned (ownV x z) ∧ Holds w [] (ownM x z) w'
theorem ResT.ofO {w w' : World} {G : Rd} {x : Arr} {z : (Option Addr × Nat) × Option Addr × Nat} {r : List HP} (hh : Holds w [] (ro w [] G :: own1 z.1 x.shape :: own1 z.2 x.data :: r) w') (hsI : ∀ n ∈ x.shape, I64 n) (hdI : ∀ n ∈ x.data, I64 n) :
    ResT (0, x) G w (.returned (.tuple #[ownV x z, .nilIface])) w' := ResT.own (ch := x.char) hh rfl rfl rfl hsI hdI
theorem ResT.up {r : Int × Arr} {G G' : Rd} {w w' : World} {e : Ending} (g : Rd.grow w G G') (h : ResT r G' w e w') : ResT r G w e w' := by
  obtain ⟨x, G2, h1, h2, h3, h4⟩ := h
  exact ⟨x, G2, h1, h2, Rd.grow_tr g h3, h4⟩
theorem one_I {ys : List Int} : ∀ x ∈ ys, ∀ u ∈ encI x, u.oneCell' = true := fun x _ u hu => by
  rw [List.mem_singleton.1 hu]
  rfl
instance : MapI Tryz.prog 155 := ⟨_, _, Tryz.underlying155, Tryz.underlying3, Tryz.zeroValue3⟩
end Go.Proofs.YtadlpfbjnpbnoaaGreatDoor
namespace Go.Proofs.YtadlpfbjnpbnoaaGreatDoor
open Go.RowKit
set_option maxHeartbeats 16000000 in
set_option maxRecDepth 100000 in
theorem seek_firsts (a : ArrM) (G : Rd) (w : World) (hS : Rd.le G w.cell?) (ha : ArrG G a) (h7 : a.data.xs.length ≤ 4096) :
    Calls Tryz.prog 157 #[arrV a] w fun e w' => ∃ b : Nat, True ∧ e = .returned (.map (some b)) ∧ Holds w [] [mq b (fsts a.data.xs)] w' := by
  refine enterR (args := [_]) (m := []) (F := []) hS.sub rfl Tryz.func157 rfl Tryz.ntmps157 (by simp) ?_
  clear hS
  have hd := ha.data
  ((repeat' (first|refine zza ?_|refine zc9 ?_|refine zzb fun w hw => ?_|refine zzh fun _ => ?_|refine zzi fun _ _ => ?_|refine zu1 ?_|refine zu2 ?_|refine zu3 ?_|refine zu4 fun _ => ?_|refine zzj (fun _ => ?_) fun _ => ?_)); (repeat' (refine CW_seq ?_; (repeat' (first|refine zza ?_|refine zc9 ?_|refine zzb fun w hw => ?_|refine zzh fun _ => ?_|refine zzi fun _ _ => ?_|refine zu1 ?_|refine zu2 ?_|refine zu3 ?_|refine zu4 fun _ => ?_|refine zzj (fun _ => ?_) fun _ => ?_)))))
  rename_i b1
  refine WL_makeMapI rfl rfl rfl fun bm => ?_
  ((repeat' (first|refine zza ?_|refine zc9 ?_|refine zzb fun w hw => ?_|refine zzh fun _ => ?_|refine zzi fun _ _ => ?_|refine zu1 ?_|refine zu2 ?_|refine zu3 ?_|refine zu4 fun _ => ?_|refine zzj (fun _ => ?_) fun _ => ?_)); (repeat' (refine CW_seq ?_; (repeat' (first|refine zza ?_|refine zc9 ?_|refine zzb fun w hw => ?_|refine zzh fun _ => ?_|refine zzi fun _ _ => ?_|refine zu1 ?_|refine zu2 ?_|refine zu3 ?_|refine zu4 fun _ => ?_|refine zzj (fun _ => ?_) fun _ => ?_)))))
  refine CW_loopK [(3,_),(13,_),(14,_)] zcov (fun i : Nat => [(15, .int .i64 (i : Int))]) (fun i => [mq bm (firstsL a.data.xs i), boxB b1 a, ro w [] G]) (fun i => i ≤ a.data.xs.length) (fun i => a.data.xs.length - i) 0 (Nat.zero_le _) zcov zent ?_
  rintro i hi
  by_cases hlt : i < a.data.xs.length
  · have hp := hd.some_lt hlt
    have hsu : firstsL a.data.xs (i + 1) = if hasI (firstsL a.data.xs i) (a.data.xs.getD i 0) = true then firstsL a.data.xs i else firstsL a.data.xs i ++ [(a.data.xs.getD i 0, (i : Int))] := rfl
    cases hk : hasI (firstsL a.data.xs i) (a.data.xs.getD i 0) with
    | true =>
      rw [if_pos hk] at hsu
      ((repeat' (first|refine zza ?_|refine zc9 ?_|refine zzb fun w hw => ?_|refine zzh fun _ => ?_|refine zzi fun _ _ => ?_|refine zu1 ?_|refine zu2 ?_|refine zu3 ?_|refine zu4 fun _ => ?_|refine zzj (fun _ => ?_) fun _ => ?_)); (repeat' (refine CW_seq ?_; (repeat' (first|refine zza ?_|refine zc9 ?_|refine zzb fun w hw => ?_|refine zzh fun _ => ?_|refine zzi fun _ _ => ?_|refine zu1 ?_|refine zu2 ?_|refine zu3 ?_|refine zu4 fun _ => ?_|refine zzj (fun _ => ?_) fun _ => ?_)))))
      refine WL_op rfl rfl (y_lookupI rfl rfl fun w hw => hw.mq zpk) ?_
      rw [hk]
      ((repeat' (first|refine zza ?_|refine zc9 ?_|refine zzb fun w hw => ?_|refine zzh fun _ => ?_|refine zzi fun _ _ => ?_|refine zu1 ?_|refine zu2 ?_|refine zu3 ?_|refine zu4 fun _ => ?_|refine zzj (fun _ => ?_) fun _ => ?_)); (repeat' (refine CW_seq ?_; (repeat' (first|refine zza ?_|refine zc9 ?_|refine zzb fun w hw => ?_|refine zzh fun _ => ?_|refine zzi fun _ _ => ?_|refine zu1 ?_|refine zu2 ?_|refine zu3 ?_|refine zu4 fun _ => ?_|refine zzj (fun _ => ?_) fun _ => ?_)))))
      refine EX_loop' (i + 1) ⟨zcov, ?_, by omega, by omega⟩
      show Ent _ [mq bm (firstsL a.data.xs (i + 1)), boxB b1 a, ro w [] G]
      rw [hsu]
      exact zent
    | false =>
      rw [if_neg (by rw [hk]; simp)] at hsu
      ((repeat' (first|refine zza ?_|refine zc9 ?_|refine zzb fun w hw => ?_|refine zzh fun _ => ?_|refine zzi fun _ _ => ?_|refine zu1 ?_|refine zu2 ?_|refine zu3 ?_|refine zu4 fun _ => ?_|refine zzj (fun _ => ?_) fun _ => ?_)); (repeat' (refine CW_seq ?_; (repeat' (first|refine zza ?_|refine zc9 ?_|refine zzb fun w hw => ?_|refine zzh fun _ => ?_|refine zzi fun _ _ => ?_|refine zu1 ?_|refine zu2 ?_|refine zu3 ?_|refine zu4 fun _ => ?_|refine zzj (fun _ => ?_) fun _ => ?_)))))
      refine WL_op rfl rfl (y_lookupI rfl rfl fun w hw => hw.mq zpk) ?_
      rw [hk]
      ((repeat' (first|refine zza ?_|refine zc9 ?_|refine zzb fun w hw => ?_|refine zzh fun _ => ?_|refine zzi fun _ _ => ?_|refine zu1 ?_|refine zu2 ?_|refine zu3 ?_|refine zu4 fun _ => ?_|refine zzj (fun _ => ?_) fun _ => ?_)); (repeat' (refine CW_seq ?_; (repeat' (first|refine zza ?_|refine zc9 ?_|refine zzb fun w hw => ?_|refine zzh fun _ => ?_|refine zzi fun _ _ => ?_|refine zu1 ?_|refine zu2 ?_|refine zu3 ?_|refine zu4 fun _ => ?_|refine zzj (fun _ => ?_) fun _ => ?_)))))
      refine WL_mapNewI rfl rfl rfl zpk hk rfl rfl ?_
      ((repeat' (first|refine zza ?_|refine zc9 ?_|refine zzb fun w hw => ?_|refine zzh fun _ => ?_|refine zzi fun _ _ => ?_|refine zu1 ?_|refine zu2 ?_|refine zu3 ?_|refine zu4 fun _ => ?_|refine zzj (fun _ => ?_) fun _ => ?_)); (repeat' (refine CW_seq ?_; (repeat' (first|refine zza ?_|refine zc9 ?_|refine zzb fun w hw => ?_|refine zzh fun _ => ?_|refine zzi fun _ _ => ?_|refine zu1 ?_|refine zu2 ?_|refine zu3 ?_|refine zu4 fun _ => ?_|refine zzj (fun _ => ?_) fun _ => ?_)))))
      refine EX_loop' (i + 1) ⟨zcov, ?_, by omega, by omega⟩
      show Ent _ [mq bm (firstsL a.data.xs (i + 1)), boxB b1 a, ro w [] G]
      rw [hsu]
      exact zent
  · obtain rfl : i = a.data.xs.length := by omega
    ((repeat' (first|refine zza ?_|refine zc9 ?_|refine zzb fun w hw => ?_|refine zzh fun _ => ?_|refine zzi fun _ _ => ?_|refine zu1 ?_|refine zu2 ?_|refine zu3 ?_|refine zu4 fun _ => ?_|refine zzj (fun _ => ?_) fun _ => ?_)); (repeat' (refine CW_seq ?_; (repeat' (first|refine zza ?_|refine zc9 ?_|refine zzb fun w hw => ?_|refine zzh fun _ => ?_|refine zzi fun _ _ => ?_|refine zu1 ?_|refine zu2 ?_|refine zu3 ?_|refine zu4 fun _ => ?_|refine zzj (fun _ => ?_) fun _ => ?_)))))
    exact ⟨bm, trivial, rfl, hw.ent (Ent.cons zpk Ent.nil)⟩
end Go.Proofs.YtadlpfbjnpbnoaaGreatDoor
namespace Go.Proofs.YtadlpfbjnpbnoaaGreatDoor
open Go.RowKit
theorem chosenA_S {p : Nat → Int → Bool} {a : Arr} (h : a.data.length ≤ 4096) : ∀ n ∈ (chosenA p a).shape, I64 n := fun n hn => by
  have := chosenL_len p a.data a.data.length
  rw [List.mem_singleton.1 hn]
  exact ⟨by omega, by omega⟩
abbrev boxM (G : Rd) (b : Nat) (bm : Nat) : Prop := Row (fun v : Value => [v]) 1 G (some ⟨b, 0, none⟩) 1 [.map (some bm)]
set_option maxHeartbeats 16000000 in
set_option maxRecDepth 100000 in
theorem pair_has (a b : ArrM) (i c : Int) (b7 b2 b3 bm : Nat) (G : Rd) (W : World) (hS : Rd.le G W.cell?) (r7 : boxM G b7 bm) (r2 : boxA G b2 a) (r3 : boxA G b3 b) (hm : MapAt W bm (fsts b.data.xs)) :
    Calls Tryz.prog 186 #[.int .i64 i, .int .i64 c, ptrV b7, ptrV b2, ptrV b3] W fun e w' => e = .returned (.bool (hasA b.arr a.char c)) ∧ Below W.heap.size W w' := by
  refine enterR (args := [_, _, _, _, _]) (m := []) (F := []) hS.sub rfl Tryz.func186 rfl Tryz.ntmps186 (by simp) ?_
  clear hS
  have hH : hasA b.arr a.char c = (hasI (fsts b.data.xs) c && decide (a.char = b.char)) := rfl
  rw [hH]
  ((repeat' (first|refine zza ?_|refine zc9 ?_|refine zzb fun w hw => ?_|refine zzh fun _ => ?_|refine zzi fun _ _ => ?_|refine zu1 ?_|refine zu2 ?_|refine zu3 ?_|refine zu4 fun _ => ?_|refine zzj (fun _ => ?_) fun _ => ?_)); (repeat' (refine CW_seq ?_; (repeat' (first|refine zza ?_|refine zc9 ?_|refine zzb fun w hw => ?_|refine zzh fun _ => ?_|refine zzi fun _ _ => ?_|refine zu1 ?_|refine zu2 ?_|refine zu3 ?_|refine zu4 fun _ => ?_|refine zzj (fun _ => ?_) fun _ => ?_)))))
  refine WL_op rfl rfl (y_lookupI rfl rfl fun w hw => hm.keep hw.keep) ?_
  cases hk : hasI (fsts b.data.xs) c with
  | true =>
    ((repeat' (first|refine zza ?_|refine zc9 ?_|refine zzb fun w hw => ?_|refine zzh fun _ => ?_|refine zzi fun _ _ => ?_|refine zu1 ?_|refine zu2 ?_|refine zu3 ?_|refine zu4 fun _ => ?_|refine zzj (fun _ => ?_) fun _ => ?_)); (repeat' (refine CW_seq ?_; (repeat' (first|refine zza ?_|refine zc9 ?_|refine zzb fun w hw => ?_|refine zzh fun _ => ?_|refine zzi fun _ _ => ?_|refine zu1 ?_|refine zu2 ?_|refine zu3 ?_|refine zu4 fun _ => ?_|refine zzj (fun _ => ?_) fun _ => ?_)))))
    exact ⟨rfl, hw.below⟩
  | false =>
    ((repeat' (first|refine zza ?_|refine zc9 ?_|refine zzb fun w hw => ?_|refine zzh fun _ => ?_|refine zzi fun _ _ => ?_|refine zu1 ?_|refine zu2 ?_|refine zu3 ?_|refine zu4 fun _ => ?_|refine zzj (fun _ => ?_) fun _ => ?_)); (repeat' (refine CW_seq ?_; (repeat' (first|refine zza ?_|refine zc9 ?_|refine zzb fun w hw => ?_|refine zzh fun _ => ?_|refine zzi fun _ _ => ?_|refine zu1 ?_|refine zu2 ?_|refine zu3 ?_|refine zu4 fun _ => ?_|refine zzj (fun _ => ?_) fun _ => ?_)))))
    exact ⟨rfl, hw.below⟩
set_option maxHeartbeats 16000000 in
set_option maxRecDepth 100000 in
theorem seek_chosen (a : ArrM) (f : FuncId) [F1 : FnT Tryz.prog f] (cap : List Value) (p : Nat → Int → Bool) (G : Rd) (w : World) (hS : Rd.le G w.cell?) (ha : ArrG G a) (h7 : a.data.xs.length ≤ 4096)
    (hp : ∀ (i : Nat) (W : World), i < a.data.xs.length → Keep w [] W → Rd.le G W.cell? → Calls Tryz.prog f ([Value.int .i64 (i : Int), .int .i64 (a.data.xs.getD i 0)] ++ cap).toArray W fun e w' => e = .returned (.bool (p i (a.data.xs.getD i 0))) ∧ Below W.heap.size W w') :
    Calls Tryz.prog 159 #[arrV a, .func (.func f) #[] cap.toArray] w (OwnA (chosenA p a.arr) w) := by
  refine enterR (args := [_, _]) (m := []) (F := []) hS.sub rfl Tryz.func159 rfl Tryz.ntmps159 (by simp) ?_
  clear hS
  have hd := ha.data
  ((repeat' (first|refine zza ?_|refine zc9 ?_|refine zzb fun w hw => ?_|refine zzh fun _ => ?_|refine zzi fun _ _ => ?_|refine zu1 ?_|refine zu2 ?_|refine zu3 ?_|refine zu4 fun _ => ?_|refine zzj (fun _ => ?_) fun _ => ?_)); (repeat' (refine CW_seq ?_; (repeat' (first|refine zza ?_|refine zc9 ?_|refine zzb fun w hw => ?_|refine zzh fun _ => ?_|refine zzi fun _ _ => ?_|refine zu1 ?_|refine zu2 ?_|refine zu3 ?_|refine zu4 fun _ => ?_|refine zzj (fun _ => ?_) fun _ => ?_)))))
  rename_i b2 b4 b5
  refine CW_ent (m' := [blk b5 27 #[.bool a.char, .slice none 0 0, .slice none 0 0], sl 3 1 none 0 0 [], zB b4, boxB b2 a, ro w [] G]) (Ent.consK (k := Ent.nilown zent) zpk) ?_
  refine CW_loopK [(1,_),(2,_),(4,_),(5,_),(12,_),(13,_)] zcov (fun z : Nat × Option Addr × Nat => [(14, .int .i64 (z.1 : Int))]) (fun z => [blk b5 27 #[.bool a.char, .slice none 0 0, .slice z.2.1 (chosenL p a.data.xs z.1).length z.2.2], own1 z.2 (chosenL p a.data.xs z.1), zB b4, boxB b2 a, ro w [] G]) (fun z => z.1 ≤ a.data.xs.length) (fun z => a.data.xs.length - z.1) (0, none, 0) (Nat.zero_le _) zcov zent ?_
  rintro ⟨i, q, c⟩ hi
  dsimp only at hi ⊢
  by_cases hlt : i < a.data.xs.length
  · have hsu : chosenL p a.data.xs (i + 1) = if p i (a.data.xs.getD i 0) = true then chosenL p a.data.xs i ++ [a.data.xs.getD i 0] else chosenL p a.data.xs i := rfl
    have hcl := chosenL_len p a.data.xs i
    have hpi := fun W => hp i W hlt
    ((repeat' (first|refine zza ?_|refine zc9 ?_|refine zzb fun w hw => ?_|refine zzh fun _ => ?_|refine zzi fun _ _ => ?_|refine zu1 ?_|refine zu2 ?_|refine zu3 ?_|refine zu4 fun _ => ?_|refine zzj (fun _ => ?_) fun _ => ?_)); (repeat' (refine CW_seq ?_; (repeat' (first|refine zza ?_|refine zc9 ?_|refine zzb fun w hw => ?_|refine zzh fun _ => ?_|refine zzi fun _ _ => ?_|refine zu1 ?_|refine zu2 ?_|refine zu3 ?_|refine zu4 fun _ => ?_|refine zzj (fun _ => ?_) fun _ => ?_)))))
    refine WL_callY (S := F1) (cap := cap) rfl rfl rfl rfl (fun W hW => hpi W hW.keep (hW.le zpk)) ?_
    cases hk : p i (a.data.xs.getD i 0) with
    | true =>
      rw [if_pos hk] at hsu
      ((repeat' (first|refine zza ?_|refine zc9 ?_|refine zzb fun w hw => ?_|refine zzh fun _ => ?_|refine zzi fun _ _ => ?_|refine zu1 ?_|refine zu2 ?_|refine zu3 ?_|refine zu4 fun _ => ?_|refine zzj (fun _ => ?_) fun _ => ?_)); (repeat' (refine CW_seq ?_; (repeat' (first|refine zza ?_|refine zc9 ?_|refine zzb fun w hw => ?_|refine zzh fun _ => ?_|refine zzi fun _ _ => ?_|refine zu1 ?_|refine zu2 ?_|refine zu3 ?_|refine zu4 fun _ => ?_|refine zzj (fun _ => ?_) fun _ => ?_)))))
      rename_i q2 k2
      refine EX_loop' (i + 1, q2, k2) ⟨zcov, ?_, by show a.data.xs.length - (i + 1) < a.data.xs.length - i; omega, hlt⟩
      show Ent _ [blk b5 27 #[.bool a.char, .slice none 0 0, .slice q2 (chosenL p a.data.xs (i + 1)).length k2], sl 3 1 q2 (chosenL p a.data.xs (i + 1)).length k2 ((chosenL p a.data.xs (i + 1)).map (Value.int .i64)), zB b4, boxB b2 a, ro w [] G]
      rw [hsu, List.length_append, List.map_append]
      exact Ent.consK (k := zent) zpk
    | false =>
      rw [if_neg (by rw [hk]; simp)] at hsu
      ((repeat' (first|refine zza ?_|refine zc9 ?_|refine zzb fun w hw => ?_|refine zzh fun _ => ?_|refine zzi fun _ _ => ?_|refine zu1 ?_|refine zu2 ?_|refine zu3 ?_|refine zu4 fun _ => ?_|refine zzj (fun _ => ?_) fun _ => ?_)); (repeat' (refine CW_seq ?_; (repeat' (first|refine zza ?_|refine zc9 ?_|refine zzb fun w hw => ?_|refine zzh fun _ => ?_|refine zzi fun _ _ => ?_|refine zu1 ?_|refine zu2 ?_|refine zu3 ?_|refine zu4 fun _ => ?_|refine zzj (fun _ => ?_) fun _ => ?_)))))
      refine EX_loop' (i + 1, q, c) ⟨zcov, ?_, by show a.data.xs.length - (i + 1) < a.data.xs.length - i; omega, hlt⟩
      show Ent _ [blk b5 27 #[.bool a.char, .slice none 0 0, .slice q (chosenL p a.data.xs (i + 1)).length c], own1 (q, c) (chosenL p a.data.xs (i + 1)), zB b4, boxB b2 a, ro w [] G]
      rw [hsu]
      exact zent
  · obtain rfl : i = a.data.xs.length := by omega
    have hcl := chosenL_len p a.data.xs a.data.xs.length
    ((repeat' (first|refine zza ?_|refine zc9 ?_|refine zzb fun w hw => ?_|refine zzh fun _ => ?_|refine zzi fun _ _ => ?_|refine zu1 ?_|refine zu2 ?_|refine zu3 ?_|refine zu4 fun _ => ?_|refine zzj (fun _ => ?_) fun _ => ?_)); (repeat' (refine CW_seq ?_; (repeat' (first|refine zza ?_|refine zc9 ?_|refine zzb fun w hw => ?_|refine zzh fun _ => ?_|refine zzi fun _ _ => ?_|refine zu1 ?_|refine zu2 ?_|refine zu3 ?_|refine zu4 fun _ => ?_|refine zzj (fun _ => ?_) fun _ => ?_)))))
    rename_i bk
    exact ⟨((some ⟨bk, 0, none⟩, 1), q, c), trivial, by kernel_rfl, hw.ent (Ent.blkSlN (n := 1) (sz := 1) (xs := [((chosenL p a.data.xs a.data.xs.length).length : Int)].map (Value.int .i64)) zpk rfl rfl (by decide) (Ent.cons zpk Ent.nil))⟩
end Go.Proofs.YtadlpfbjnpbnoaaGreatDoor
