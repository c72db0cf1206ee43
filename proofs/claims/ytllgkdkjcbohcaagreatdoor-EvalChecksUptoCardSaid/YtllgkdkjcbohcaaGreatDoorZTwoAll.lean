/-
  The logic of walks: a slice of the call's own that lost its first elements (a queue); a field of an element of a slice of the call's own. Of no program.
  Things in memory lie in cells: what is no cells may turn beside them. Of no program.
  A round of a range over a function, told by slots and things. Of no program.
  slices.Backward over ints: what its iterator does with a round that keeps the slice.
  The package prim: prim.Two of everything.
-/
import Derived.Test.YtllgkdkjcbohcaaGreatDoorZRd
import Derived.RangeFuncFrom
import Derived.RangeFuncNested
import Derived.RangeFuncCalls
import Derived.RangeFuncLeaves
import Derived.TacticsInMore
import Derived.RangeFuncBox
import Derived.Shelf.Abstract
import Derived.WalkKit
import Derived.OwnWalkIn
import Derived.LoopNIn
import Derived.LoopIn
import Derived.Test.YtllgkdkjcbohcaaGreatDoorProg
import Derived.Test.YtllgkdkjcbohcaaGreatDoorZGo
import Derived.Test.YtllgkdkjcbohcaaGreatDoorZPrimSwp
import Derived.Test.YtllgkdkjcbohcaaGreatDoorZTwoEx
import Derived.Test.YtllgkdkjcbohcaaGreatDoorZArrL
import Derived.Test.YtllgkdkjcbohcaaGreatDoorZStpL
import Derived.Lib.AppendZeros
import Derived.Test.YtllgkdkjcbohcaaGreatDoorZArrW
namespace Go.Proofs.YtllgkdkjcbohcaaGreatDoor
open Go.RowKit
/-- the slice value .slice p n c is the call's own, wherever in its block it begins, and holds xs (sz cells an element of type e) -/
def sq (e : TypeId) (sz : Nat) (p : Option Addr) (n c : Nat) (xs : List Value) : HP where
  p w fp := fp = blkOf p ∧ xs.length = n * sz ∧ ((p = none ∧ n = 0 ∧ c = 0) ∨ ∃ g off cur, p = some ⟨g, off, none⟩ ∧ w.heap[g]? = some (.cells cur e (0, 0)) ∧ n ≤ c ∧ c ≤ maxLen ∧ off + c * sz ≤ cur.size ∧ (cur.toList.drop off).take (n * sz) = xs)
  st w w' fp h := by
    rintro ⟨rfl, h1, h2⟩
    refine ⟨rfl, h1, ?_⟩
    rcases h2 with h2 | ⟨g, off, cur, rfl, hg, r⟩
    · exact .inl h2
    · exact .inr ⟨g, off, cur, rfl, (h g (by simp [blkOf])).trans hg, r⟩
  lt w fp := by
    rintro ⟨rfl, h1, h2⟩ i hi
    rcases h2 with ⟨rfl, _⟩ | ⟨g, off, cur, rfl, hg, r⟩
    · simp [blkOf] at hi
    · have : i = g := by simpa [blkOf] using hi
      subst this
      exact (Array.getElem?_eq_some_iff.1 hg).1
theorem add_at (b i j : Nat) : (⟨b, i, none⟩ : Addr).add j = ⟨b, i + j, none⟩ := by
  unfold Addr.add
  split <;> simp [*]
/-- the address behind a slice's first element -/
def tailP (p : Option Addr) (c sz : Nat) : Option Addr := if c = 1 then p else p.map (·.add sz)
section
variable {P : Program} {K : Cx} {ρ : Env} {m r : List HP} {dst : Option Nat} {ty t t' e : TypeId} {pos : String} {aft : Array Edge} {g : Option (Nat × Bool)} {v : Value} {x y z : Operand} {ops : Array Oper} {Q : Exit → Act → World → Prop} {rest : List Oper} {d sz n c bytes : Nat} {zs xs ys : List Value} {p : Option Addr}
theorem Ent.tail {m' : List HP} (hp : Pick m (sq e sz p (n + 1) c (ys ++ xs)) r) (hl : ys.length = sz) (kk : Ent r m') : Ent m (sq e sz (tailP p c sz) n (c - 1) xs :: m') := fun fp w ho => by
  obtain ⟨f1, f2, he, ⟨hf1, hlen, hown⟩, k2, kd⟩ := hp.own ho
  obtain ⟨f3, h3, hs⟩ := kk f2 w k2
  have hxl : xs.length = n * sz := by rw [List.length_append, hl, Nat.add_mul, Nat.one_mul] at hlen; omega
  rcases hown with ⟨_, h0, _⟩ | ⟨g, off, cur, rfl, hg, hnc, hcm, hcs, ht⟩
  · omega
  have hb : blkOf (tailP (some ⟨g, off, none⟩) c sz) = f1 := by
    rw [hf1]; unfold tailP
    split
    · rfl
    · simp [blkOf, add_at]
  refine ⟨f1 ++ f3, ⟨f1, f3, rfl, ⟨hb.symm, hxl, .inr ?_⟩, h3, fun i hi h => kd i hi (hs i h)⟩, fun i hi => ?_⟩
  · unfold tailP
    by_cases hc : c = 1
    · subst hc
      have hn : n = 0 := by omega
      subst hn
      have hx0 : xs = [] := List.eq_nil_of_length_eq_zero (by omega)
      subst hx0
      exact ⟨g, off, cur, by rw [if_pos rfl], hg, Nat.le_refl _, by omega, by omega, by simp⟩
    · refine ⟨g, off + sz, cur, by rw [if_neg hc, Option.map_some, add_at], hg, by omega, by omega, ?_, ?_⟩
      · have : c * sz = (c - 1) * sz + sz := by
          conv => lhs; rw [show c = (c - 1) + 1 by omega]
          rw [Nat.add_mul, Nat.one_mul]
        omega
      · have h5 := congrArg (List.drop sz) ht
        rw [← hl, List.drop_left, hl] at h5
        rw [← h5, List.drop_take, List.drop_drop, Nat.add_mul, Nat.one_mul, Nat.add_sub_cancel, Nat.add_comm off]
  · rcases List.mem_append.1 hi with hi | hi
    · exact (he i).2 (.inl hi)
    · exact (he i).2 (.inr (hs i hi))
end
end Go.Proofs.YtllgkdkjcbohcaaGreatDoor
namespace Go.Proofs.YtllgkdkjcbohcaaGreatDoor
open Go.RowKit
/-- a thing lies in blocks of cells (or in fewer blocks, that are) -/
def Cel (h : HP) : Prop := ∀ w fp, h.p w fp → ∃ fp', (∀ i ∈ fp', i ∈ fp) ∧ h.p w fp' ∧ ∀ i ∈ fp', ∃ o, w.heap[i]? = some o ∧ o.isCells = true
theorem own_cells : ∀ {m : List HP}, (∀ h ∈ m, Cel h) → ∀ {fp : List Nat} {w : World}, Own m fp w → ∃ fp', (∀ i ∈ fp', i ∈ fp) ∧ Own m fp' w ∧ ∀ i ∈ fp', ∃ o, w.heap[i]? = some o ∧ o.isCells = true
  | [], _, fp, w, h => ⟨[], by simp, rfl, by simp⟩
  | x :: m, hc, fp, w, h => by
    obtain ⟨f1, f2, rfl, h1, h2, hd⟩ := h
    obtain ⟨g1, s1, k1, c1⟩ := hc x (List.mem_cons_self ..) w f1 h1
    obtain ⟨g2, s2, k2, c2⟩ := own_cells (fun h hh => hc h (List.mem_cons_of_mem _ hh)) h2
    refine ⟨g1 ++ g2, fun i hi => ?_, ⟨g1, g2, rfl, k1, k2, fun i hi h => hd i (s1 i hi) (s2 i h)⟩, fun i hi => ?_⟩
    · rcases List.mem_append.1 hi with hi | hi
      · exact List.mem_append_left _ (s1 i hi)
      · exact List.mem_append_right _ (s2 i hi)
    · rcases List.mem_append.1 hi with hi | hi
      · exact c1 i hi
      · exact c2 i hi
/-- what is no cells turns -/
theorem Holds.put {w0 W W' : World} {F : List Nat} {m : List HP} {row : Option Nat} (hh : Holds w0 F m W) (hc : ∀ h ∈ m, Cel h) (hg : W.grownBy W' row) (hr : ∀ r, row = some r → w0.heap.size ≤ r ∧ ∃ o : Obj, W.heap[r]? = some o ∧ o.isCells = false) : Holds w0 F m W' := by
  obtain ⟨fp, ho, hF⟩ := hh.own
  obtain ⟨fp', hs, ho', hcl⟩ := own_cells hc ho
  refine ⟨⟨hg.os.trans hh.keep.os, hg.tape.trans hh.keep.tape, hg.output.trans hh.keep.output, Nat.le_trans hh.keep.size hg.size, fun k hk hkF => ?_⟩, fp', ho'.keep (fun i hi => ?_), fun i hi hl => hF i (hs i hi) hl⟩
  · rw [hg.block k (Nat.lt_of_lt_of_le hk hh.keep.size) (fun e => ?_)]
    · exact hh.keep.block k hk hkF
    · have := (hr k e.symm).1
      omega
  · refine hg.block i (ho'.lt i hi) (fun e => ?_)
    obtain ⟨_, o, ho1, ho2⟩ := hr i e.symm
    obtain ⟨o', ho3, ho4⟩ := hcl i hi
    rw [ho1] at ho3
    cases ho3
    rw [ho2] at ho4
    cases ho4
end Go.Proofs.YtllgkdkjcbohcaaGreatDoor
namespace Go.Proofs.YtllgkdkjcbohcaaGreatDoor
open Go.RowKit
end Go.Proofs.YtllgkdkjcbohcaaGreatDoor
namespace Go.Proofs.YtllgkdkjcbohcaaGreatDoor
open Go.RowKit Go.Shelf
/-- what a round must keep: two blocks -/
def KeepTwo (g B : Nat) (W W' : World) : Prop := W'.heap[g]? = W.heap[g]? ∧ W'.heap[B]? = W.heap[B]?
theorem KeepTwo.trans {g B : Nat} {W W' W'' : World} (h : KeepTwo g B W W') (k : KeepTwo g B W' W'') : KeepTwo g B W W'' := ⟨k.1.trans h.1, k.2.trans h.2⟩
end Go.Proofs.YtllgkdkjcbohcaaGreatDoor
namespace Go.Proofs.YtllgkdkjcbohcaaGreatDoor
open Go.RowKit
set_option maxHeartbeats 16000000 in
set_option maxRecDepth 100000 in
theorem two_badA (op f g : Int) (a b : ArrM) (G : Rd) (w : World) (hS : Rd.le G w.cell?) (ha : ArrG G a) (hb : ArrG G b) (h0 : op ≠ 5) (hkn : knownTwoF op f g = true) (h1 : a.arr.bad ≠ 0) :
    Calls Tryz.prog 47 #[actV op f g, arrV a, arrV b] w (ResT (a.arr.bad, zeroA) G w) := by
  refine enterR (args := [_, _, _]) (m := []) (F := []) hS.sub rfl Tryz.func47 rfl Tryz.ntmps47 (by simp) ?_
  clear hS
  have hK := fun W => prim_knownTwo op f g W
  rw [hkn] at hK
  have hA := fun W (h : Rd.le G W.cell?) => chk a G W ha h
  have hB := fun W (h : Rd.le G W.cell?) => chk b G W hb h
  rw [errV_ne h1] at hA
  generalize a.arr.bad = e at *
  clear hB
  ((repeat' (first|refine zza ?_|refine zc9 ?_|refine zzb fun w hw => ?_|refine zzh fun _ => ?_|refine zzi fun _ _ => ?_|refine zu1 ?_|refine zu2 ?_|refine zu3 ?_|refine zu4 fun _ => ?_|refine zzj (fun _ => ?_) fun _ => ?_)); (repeat' (refine CW_seq ?_; (repeat' (first|refine zza ?_|refine zc9 ?_|refine zzb fun w hw => ?_|refine zzh fun _ => ?_|refine zzi fun _ _ => ?_|refine zu1 ?_|refine zu2 ?_|refine zu3 ?_|refine zu4 fun _ => ?_|refine zzj (fun _ => ?_) fun _ => ?_)))))
  rename_i b3 b4 b5 b6
  refine WL_callV rfl rfl rfl (fun W _ => hK W) ?_
  ((repeat' (first|refine zza ?_|refine zc9 ?_|refine zzb fun w hw => ?_|refine zzh fun _ => ?_|refine zzi fun _ _ => ?_|refine zu1 ?_|refine zu2 ?_|refine zu3 ?_|refine zu4 fun _ => ?_|refine zzj (fun _ => ?_) fun _ => ?_)); (repeat' (refine CW_seq ?_; (repeat' (first|refine zza ?_|refine zc9 ?_|refine zzb fun w hw => ?_|refine zzh fun _ => ?_|refine zzi fun _ _ => ?_|refine zu1 ?_|refine zu2 ?_|refine zu3 ?_|refine zu4 fun _ => ?_|refine zzj (fun _ => ?_) fun _ => ?_)))))
  refine WL_op rfl rfl (y_buildA rfl (fun W => arr2_build a b W)) ?_
  ((repeat' (first|refine zza ?_|refine zc9 ?_|refine zzb fun w hw => ?_|refine zzh fun _ => ?_|refine zzi fun _ _ => ?_|refine zu1 ?_|refine zu2 ?_|refine zu3 ?_|refine zu4 fun _ => ?_|refine zzj (fun _ => ?_) fun _ => ?_)); (repeat' (refine CW_seq ?_; (repeat' (first|refine zza ?_|refine zc9 ?_|refine zzb fun w hw => ?_|refine zzh fun _ => ?_|refine zzi fun _ _ => ?_|refine zu1 ?_|refine zu2 ?_|refine zu3 ?_|refine zu4 fun _ => ?_|refine zzj (fun _ => ?_) fun _ => ?_)))))
  refine CW_loopK [(3,_),(4,_),(5,_),(6,_),(37,_)] zcov (fun i : Nat => [(38, .int .i64 (i : Int))]) (fun _ => [zB b6, boxB b5 b, boxB b4 a, actB b3 op f g, ro w [] G]) (fun i => i ≤ 0) (fun i => 0 - i) 0 (by omega) zcov zent ?_
  intro i hi
  obtain rfl : i = 0 := by omega
  clear hK
  ((repeat' (first|refine zza ?_|refine zc9 ?_|refine zzb fun w hw => ?_|refine zzh fun _ => ?_|refine zzi fun _ _ => ?_|refine zu1 ?_|refine zu2 ?_|refine zu3 ?_|refine zu4 fun _ => ?_|refine zzj (fun _ => ?_) fun _ => ?_)); (repeat' (refine CW_seq ?_; (repeat' (first|refine zza ?_|refine zc9 ?_|refine zzb fun w hw => ?_|refine zzh fun _ => ?_|refine zzi fun _ _ => ?_|refine zu1 ?_|refine zu2 ?_|refine zu3 ?_|refine zu4 fun _ => ?_|refine zzj (fun _ => ?_) fun _ => ?_)))))
  refine WL_op rfl rfl (y_indexA rfl rfl (fun W => arr2_index0 _ _ _ _ _ _ W)) ?_
  ((repeat' (first|refine zza ?_|refine zc9 ?_|refine zzb fun w hw => ?_|refine zzh fun _ => ?_|refine zzi fun _ _ => ?_|refine zu1 ?_|refine zu2 ?_|refine zu3 ?_|refine zu4 fun _ => ?_|refine zzj (fun _ => ?_) fun _ => ?_)); (repeat' (refine CW_seq ?_; (repeat' (first|refine zza ?_|refine zc9 ?_|refine zzb fun w hw => ?_|refine zzh fun _ => ?_|refine zzi fun _ _ => ?_|refine zu1 ?_|refine zu2 ?_|refine zu3 ?_|refine zu4 fun _ => ?_|refine zzj (fun _ => ?_) fun _ => ?_)))))
  refine WL_callV rfl rfl rfl (fun W hW => hA W (hW.le zpk)) ?_
  ((repeat' (first|refine zza ?_|refine zc9 ?_|refine zzb fun w hw => ?_|refine zzh fun _ => ?_|refine zzi fun _ _ => ?_|refine zu1 ?_|refine zu2 ?_|refine zu3 ?_|refine zu4 fun _ => ?_|refine zzj (fun _ => ?_) fun _ => ?_)); (repeat' (refine CW_seq ?_; (repeat' (first|refine zza ?_|refine zc9 ?_|refine zzb fun w hw => ?_|refine zzh fun _ => ?_|refine zzi fun _ _ => ?_|refine zu1 ?_|refine zu2 ?_|refine zu3 ?_|refine zu4 fun _ => ?_|refine zzj (fun _ => ?_) fun _ => ?_)))))
  refine EX_retK2 (b := b6) rfl rfl rfl rfl zpk rfl fun w' hw => ?_
  exact ResT.err h1 (hw.ent (Ent.cons zpk Ent.nil))
set_option maxHeartbeats 16000000 in
set_option maxRecDepth 100000 in
theorem two_badB (op f g : Int) (a b : ArrM) (G : Rd) (w : World) (hS : Rd.le G w.cell?) (ha : ArrG G a) (hb : ArrG G b) (h0 : op ≠ 5) (hkn : knownTwoF op f g = true) (h1 : a.arr.bad = 0) (h2 : b.arr.bad ≠ 0) :
    Calls Tryz.prog 47 #[actV op f g, arrV a, arrV b] w (ResT (b.arr.bad, zeroA) G w) := by
  refine enterR (args := [_, _, _]) (m := []) (F := []) hS.sub rfl Tryz.func47 rfl Tryz.ntmps47 (by simp) ?_
  clear hS
  have hK := fun W => prim_knownTwo op f g W
  rw [hkn] at hK
  have hA := fun W (h : Rd.le G W.cell?) => chk a G W ha h
  have hB := fun W (h : Rd.le G W.cell?) => chk b G W hb h
  rw [h1, errV_zero] at hA
  rw [errV_ne h2] at hB
  generalize b.arr.bad = e at *
  ((repeat' (first|refine zza ?_|refine zc9 ?_|refine zzb fun w hw => ?_|refine zzh fun _ => ?_|refine zzi fun _ _ => ?_|refine zu1 ?_|refine zu2 ?_|refine zu3 ?_|refine zu4 fun _ => ?_|refine zzj (fun _ => ?_) fun _ => ?_)); (repeat' (refine CW_seq ?_; (repeat' (first|refine zza ?_|refine zc9 ?_|refine zzb fun w hw => ?_|refine zzh fun _ => ?_|refine zzi fun _ _ => ?_|refine zu1 ?_|refine zu2 ?_|refine zu3 ?_|refine zu4 fun _ => ?_|refine zzj (fun _ => ?_) fun _ => ?_)))))
  rename_i b3 b4 b5 b6
  refine WL_callV rfl rfl rfl (fun W _ => hK W) ?_
  ((repeat' (first|refine zza ?_|refine zc9 ?_|refine zzb fun w hw => ?_|refine zzh fun _ => ?_|refine zzi fun _ _ => ?_|refine zu1 ?_|refine zu2 ?_|refine zu3 ?_|refine zu4 fun _ => ?_|refine zzj (fun _ => ?_) fun _ => ?_)); (repeat' (refine CW_seq ?_; (repeat' (first|refine zza ?_|refine zc9 ?_|refine zzb fun w hw => ?_|refine zzh fun _ => ?_|refine zzi fun _ _ => ?_|refine zu1 ?_|refine zu2 ?_|refine zu3 ?_|refine zu4 fun _ => ?_|refine zzj (fun _ => ?_) fun _ => ?_)))))
  refine WL_op rfl rfl (y_buildA rfl (fun W => arr2_build a b W)) ?_
  ((repeat' (first|refine zza ?_|refine zc9 ?_|refine zzb fun w hw => ?_|refine zzh fun _ => ?_|refine zzi fun _ _ => ?_|refine zu1 ?_|refine zu2 ?_|refine zu3 ?_|refine zu4 fun _ => ?_|refine zzj (fun _ => ?_) fun _ => ?_)); (repeat' (refine CW_seq ?_; (repeat' (first|refine zza ?_|refine zc9 ?_|refine zzb fun w hw => ?_|refine zzh fun _ => ?_|refine zzi fun _ _ => ?_|refine zu1 ?_|refine zu2 ?_|refine zu3 ?_|refine zu4 fun _ => ?_|refine zzj (fun _ => ?_) fun _ => ?_)))))
  refine CW_loopK [(3,_),(4,_),(5,_),(6,_),(37,_)] zcov (fun i : Nat => [(38, .int .i64 (i : Int))]) (fun _ => [zB b6, boxB b5 b, boxB b4 a, actB b3 op f g, ro w [] G]) (fun i => i ≤ 1) (fun i => 1 - i) 0 (by omega) zcov zent ?_
  intro i hi
  by_cases i0 : i = 0
  · subst i0
    clear hB hK
    ((repeat' (first|refine zza ?_|refine zc9 ?_|refine zzb fun w hw => ?_|refine zzh fun _ => ?_|refine zzi fun _ _ => ?_|refine zu1 ?_|refine zu2 ?_|refine zu3 ?_|refine zu4 fun _ => ?_|refine zzj (fun _ => ?_) fun _ => ?_)); (repeat' (refine CW_seq ?_; (repeat' (first|refine zza ?_|refine zc9 ?_|refine zzb fun w hw => ?_|refine zzh fun _ => ?_|refine zzi fun _ _ => ?_|refine zu1 ?_|refine zu2 ?_|refine zu3 ?_|refine zu4 fun _ => ?_|refine zzj (fun _ => ?_) fun _ => ?_)))))
    refine WL_op rfl rfl (y_indexA rfl rfl (fun W => arr2_index0 _ _ _ _ _ _ W)) ?_
    ((repeat' (first|refine zza ?_|refine zc9 ?_|refine zzb fun w hw => ?_|refine zzh fun _ => ?_|refine zzi fun _ _ => ?_|refine zu1 ?_|refine zu2 ?_|refine zu3 ?_|refine zu4 fun _ => ?_|refine zzj (fun _ => ?_) fun _ => ?_)); (repeat' (refine CW_seq ?_; (repeat' (first|refine zza ?_|refine zc9 ?_|refine zzb fun w hw => ?_|refine zzh fun _ => ?_|refine zzi fun _ _ => ?_|refine zu1 ?_|refine zu2 ?_|refine zu3 ?_|refine zu4 fun _ => ?_|refine zzj (fun _ => ?_) fun _ => ?_)))))
    refine WL_callV rfl rfl rfl (fun W hW => hA W (hW.le zpk)) ?_
    ((repeat' (first|refine zza ?_|refine zc9 ?_|refine zzb fun w hw => ?_|refine zzh fun _ => ?_|refine zzi fun _ _ => ?_|refine zu1 ?_|refine zu2 ?_|refine zu3 ?_|refine zu4 fun _ => ?_|refine zzj (fun _ => ?_) fun _ => ?_)); (repeat' (refine CW_seq ?_; (repeat' (first|refine zza ?_|refine zc9 ?_|refine zzb fun w hw => ?_|refine zzh fun _ => ?_|refine zzi fun _ _ => ?_|refine zu1 ?_|refine zu2 ?_|refine zu3 ?_|refine zu4 fun _ => ?_|refine zzj (fun _ => ?_) fun _ => ?_)))))
    exact EX_loop' 1 ⟨zcov, zent, by omega, by omega⟩
  obtain rfl : i = 1 := by omega
  clear hA hK
  ((repeat' (first|refine zza ?_|refine zc9 ?_|refine zzb fun w hw => ?_|refine zzh fun _ => ?_|refine zzi fun _ _ => ?_|refine zu1 ?_|refine zu2 ?_|refine zu3 ?_|refine zu4 fun _ => ?_|refine zzj (fun _ => ?_) fun _ => ?_)); (repeat' (refine CW_seq ?_; (repeat' (first|refine zza ?_|refine zc9 ?_|refine zzb fun w hw => ?_|refine zzh fun _ => ?_|refine zzi fun _ _ => ?_|refine zu1 ?_|refine zu2 ?_|refine zu3 ?_|refine zu4 fun _ => ?_|refine zzj (fun _ => ?_) fun _ => ?_)))))
  refine WL_op rfl rfl (y_indexA rfl rfl (fun W => arr2_index1 _ _ _ _ _ _ W)) ?_
  ((repeat' (first|refine zza ?_|refine zc9 ?_|refine zzb fun w hw => ?_|refine zzh fun _ => ?_|refine zzi fun _ _ => ?_|refine zu1 ?_|refine zu2 ?_|refine zu3 ?_|refine zu4 fun _ => ?_|refine zzj (fun _ => ?_) fun _ => ?_)); (repeat' (refine CW_seq ?_; (repeat' (first|refine zza ?_|refine zc9 ?_|refine zzb fun w hw => ?_|refine zzh fun _ => ?_|refine zzi fun _ _ => ?_|refine zu1 ?_|refine zu2 ?_|refine zu3 ?_|refine zu4 fun _ => ?_|refine zzj (fun _ => ?_) fun _ => ?_)))))
  refine WL_callV rfl rfl rfl (fun W hW => hB W (hW.le zpk)) ?_
  ((repeat' (first|refine zza ?_|refine zc9 ?_|refine zzb fun w hw => ?_|refine zzh fun _ => ?_|refine zzi fun _ _ => ?_|refine zu1 ?_|refine zu2 ?_|refine zu3 ?_|refine zu4 fun _ => ?_|refine zzj (fun _ => ?_) fun _ => ?_)); (repeat' (refine CW_seq ?_; (repeat' (first|refine zza ?_|refine zc9 ?_|refine zzb fun w hw => ?_|refine zzh fun _ => ?_|refine zzi fun _ _ => ?_|refine zu1 ?_|refine zu2 ?_|refine zu3 ?_|refine zu4 fun _ => ?_|refine zzj (fun _ => ?_) fun _ => ?_)))))
  refine EX_retK2 (b := b6) rfl rfl rfl rfl zpk rfl fun w' hw => ?_
  exact ResT.err h2 (hw.ent (Ent.cons zpk Ent.nil))
end Go.Proofs.YtllgkdkjcbohcaaGreatDoor
