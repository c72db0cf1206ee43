/-
  Things in memory lie in cells: what is no cells may turn beside them. Of no program.
  A round of a range over a function, told by slots and things. Of no program.
  slices.Backward over ints: what its iterator does with a round that keeps the slice.
-/
import Derived.Test.YtngeooflfkpikaaGreatDoorYQue
import Derived.RangeFuncFrom
import Derived.RangeFuncNested
import Derived.RangeFuncCalls
import Derived.RangeFuncLeaves
import Derived.TacticsInMore
import Derived.RangeFuncBox
import Derived.Shelf.Abstract
import Derived.WalkKit
import Derived.OwnWalkIn
import Derived.LoopNIn
import Derived.LoopIn
import Derived.Test.YtngeooflfkpikaaGreatDoorProg
namespace Go.Proofs.YtngeooflfkpikaaGreatDoor
open Go.RowKit
/-- a thing lies in blocks of cells (or in fewer blocks, that are) -/
def Cel (h : HP) : Prop := ∀ w fp, h.p w fp → ∃ fp', (∀ i ∈ fp', i ∈ fp) ∧ h.p w fp' ∧ ∀ i ∈ fp', ∃ o, w.heap[i]? = some o ∧ o.isCells = true
theorem cel_blk (b : Nat) (T : TypeId) (cs : Array Value) : Cel (blk b T cs) := fun w fp h => by
  obtain ⟨rfl, hb⟩ := h
  exact ⟨[b], fun _ h => h, ⟨rfl, hb⟩, fun i hi => by rw [List.mem_singleton.1 hi]; exact ⟨_, hb, rfl⟩⟩
theorem cel_sl (e : TypeId) (sz : Nat) (p : Option Addr) (n c : Nat) (xs : List Value) : Cel (sl e sz p n c xs) := fun w fp h => by
  refine ⟨fp, fun _ h => h, h, fun i hi => ?_⟩
  obtain ⟨rfl, hl, h2⟩ := h
  rcases h2 with ⟨hv, _⟩ | ⟨g, cap, cur, hv, _, hg, _⟩
  · simp only [Value.slice.injEq] at hv
    obtain ⟨rfl, _⟩ := hv
    simp [blkOf] at hi
  · simp only [Value.slice.injEq] at hv
    obtain ⟨rfl, _⟩ := hv
    have : i = g := by simpa [blkOf] using hi
    subst this
    exact ⟨_, hg, rfl⟩
theorem cel_sq (e : TypeId) (sz : Nat) (p : Option Addr) (n c : Nat) (xs : List Value) : Cel (sq e sz p n c xs) := fun w fp h => by
  refine ⟨fp, fun _ h => h, h, fun i hi => ?_⟩
  obtain ⟨rfl, hl, h2⟩ := h
  rcases h2 with ⟨rfl, _⟩ | ⟨g, off, cur, rfl, hg, _⟩
  · simp [blkOf] at hi
  · have : i = g := by simpa [blkOf] using hi
    subst this
    exact ⟨_, hg, rfl⟩
open Classical in
theorem cel_ro (w0 : World) (F : List Nat) (G : Rd) : Cel (ro w0 F G) := fun w fp h => by
  obtain ⟨h1, h2⟩ := h
  refine ⟨fp.filter fun i => decide (∃ a v, w.cell? a = some v ∧ a.block = i), fun i hi => (List.mem_filter.1 hi).1, ⟨fun i hi => h1 i (List.mem_filter.1 hi).1, fun a v e => ?_⟩, fun i hi => ?_⟩
  · rcases h2 a v e with ⟨hb, hc⟩ | h
    · exact .inl ⟨List.mem_filter.2 ⟨hb, by simpa using ⟨a, ⟨v, hc⟩, rfl⟩⟩, hc⟩
    · exact .inr h
  · have := (List.mem_filter.1 hi).2
    simp only [decide_eq_true_eq] at this
    obtain ⟨a, v, hc, rfl⟩ := this
    unfold World.cell? at hc
    split at hc
    · rename_i cs _ _ he
      exact ⟨_, he, rfl⟩
    · cases hc
theorem own_cells : ∀ {m : List HP}, (∀ h ∈ m, Cel h) → ∀ {fp : List Nat} {w : World}, Own m fp w → ∃ fp', (∀ i ∈ fp', i ∈ fp) ∧ Own m fp' w ∧ ∀ i ∈ fp', ∃ o, w.heap[i]? = some o ∧ o.isCells = true
  | [], _, fp, w, h => ⟨[], by simp, rfl, by simp⟩
  | x :: m, hc, fp, w, h => by
    obtain ⟨f1, f2, rfl, h1, h2, hd⟩ := h
    obtain ⟨g1, s1, k1, c1⟩ := hc x (List.mem_cons_self ..) w f1 h1
    obtain ⟨g2, s2, k2, c2⟩ := own_cells (fun h hh => hc h (List.mem_cons_of_mem _ hh)) h2
    refine ⟨g1 ++ g2, fun i hi => ?_, ⟨g1, g2, rfl, k1, k2, fun i hi h => hd i (s1 i hi) (s2 i h)⟩, fun i hi => ?_⟩
    · rcases List.mem_append.1 hi with hi | hi
      · exact List.mem_append_left _ (s1 i hi)
      · exact List.mem_append_right _ (s2 i hi)
    · rcases List.mem_append.1 hi with hi | hi
      · exact c1 i hi
      · exact c2 i hi
/-- what is no cells turns -/
theorem Holds.put {w0 W W' : World} {F : List Nat} {m : List HP} {row : Option Nat} (hh : Holds w0 F m W) (hc : ∀ h ∈ m, Cel h) (hg : W.grownBy W' row) (hr : ∀ r, row = some r → w0.heap.size ≤ r ∧ ∃ o : Obj, W.heap[r]? = some o ∧ o.isCells = false) : Holds w0 F m W' := by
  obtain ⟨fp, ho, hF⟩ := hh.own
  obtain ⟨fp', hs, ho', hcl⟩ := own_cells hc ho
  refine ⟨⟨hg.os.trans hh.keep.os, hg.tape.trans hh.keep.tape, hg.output.trans hh.keep.output, Nat.le_trans hh.keep.size hg.size, fun k hk hkF => ?_⟩, fp', ho'.keep (fun i hi => ?_), fun i hi hl => hF i (hs i hi) hl⟩
  · rw [hg.block k (Nat.lt_of_lt_of_le hk hh.keep.size) (fun e => ?_)]
    · exact hh.keep.block k hk hkF
    · have := (hr k e.symm).1
      omega
  · refine hg.block i (ho'.lt i hi) (fun e => ?_)
    obtain ⟨_, o, ho1, ho2⟩ := hr i e.symm
    obtain ⟨o', ho3, ho4⟩ := hcl i hi
    rw [ho1] at ho3
    cases ho3
    rw [ho2] at ho4
    cases ho4
/-- all that is held lies within a footprint of cells -/
theorem Holds.allC {w0 w : World} {F : List Nat} {m : List HP} (h : Holds w0 F m w) (hc : ∀ h ∈ m, Cel h) : ∃ fp, Own m fp w ∧ (∀ i ∈ fp, ∃ o, w.heap[i]? = some o ∧ o.isCells = true) ∧ ∀ m' w', Holds w fp m' w' → Holds w0 F m' w' := by
  obtain ⟨fp0, ho0, hF0⟩ := h.own
  obtain ⟨fp, hs, ho, hcl⟩ := own_cells hc ho0
  have hF : ∀ i ∈ fp, i < w0.heap.size → i ∈ F := fun i hi hl => hF0 i (hs i hi) hl
  refine ⟨fp, ho, hcl, fun m' w' k => ⟨⟨k.keep.os.trans h.keep.os, k.keep.tape.trans h.keep.tape, k.keep.output.trans h.keep.output, Nat.le_trans h.keep.size k.keep.size, fun i hi hiF => (k.keep.block i (Nat.lt_of_lt_of_le hi h.keep.size) (fun hfp => hiF (hF i hfp hi))).trans (h.keep.block i hi hiF)⟩, ?_⟩⟩
  obtain ⟨g, hg, hgl⟩ := k.own
  exact ⟨g, hg, fun i hi h0 => hF i (hgl i hi (Nat.lt_of_lt_of_le h0 h.keep.size)) h0⟩
end Go.Proofs.YtngeooflfkpikaaGreatDoor
namespace Go.Proofs.YtngeooflfkpikaaGreatDoor
open Go.RowKit
section
variable {P : Program} {K : Cx} {ρ : Env} {m : List HP} {n l d : Nat} {op : Op} {ty : TypeId} {pos : String} {aft : Array Edge} {ops : Array Oper} {Q : Exit → Act → World → Prop} {rest : List Oper} {a : Act} {w : World} {v : Value}
theorem rnd_y (hD : ∀ c, op ≠ .defer c) (hN : d < K.N) (hf : Fits K.N K.D a ρ) (hm : Holds K.w0 K.F m w) (hy : Yi P K ρ m ⟨some d, op, ty, pos, aft, none⟩ v) (k : ∀ a', Fits K.N K.D a' ((d, v) :: ρ) → wpListIn (Fence.wide.inRound l) n P ops Q rest a' w) :
    wpListIn (Fence.wide.inRound l) n P ops Q (⟨some d, op, ty, pos, aft, none⟩ :: rest) a w := by
  refine wpListIn_plain rfl fun K' hK => ⟨fun _ _ => trivial, ?_⟩
  rw [Fence.inRound_round, Oper.semAt_some _ _ _ hD, hy.run a w hf hm]
  exact hK _ _ (k _ (hf.put hN v))
theorem rnd_y0 (hD : ∀ c, op ≠ .defer c) (hf : Fits K.N K.D a ρ) (hm : Holds K.w0 K.F m w) (hy : Yi P K ρ m ⟨some d, op, ty, pos, aft, none⟩ v) (k : wpListIn (Fence.wide.inRound l) n P ops Q rest (a.put (some d) v) w) :
    wpListIn (Fence.wide.inRound l) n P ops Q (⟨some d, op, ty, pos, aft, none⟩ :: rest) a w := by
  refine wpListIn_plain rfl fun K' hK => ⟨fun _ _ => trivial, ?_⟩
  rw [Fence.inRound_round, Oper.semAt_some _ _ _ hD, hy.run a w hf hm]
  exact hK _ _ k
theorem rnd_call {f : FuncId} [S : FnT P f] {xs : List Operand} {ats : Array TypeId} {vs : List Value} {R : Ending → World → Prop} (hx : opvs ρ xs = some vs) (hN : d < K.N) (hf : Fits K.N K.D a ρ) (hc : Calls P f vs.toArray w R)
    (hR : ∀ e w', R e w' → ∃ v, e = .returned v ∧ ∀ a', Fits K.N K.D a' ((d, v) :: ρ) → wpListIn (Fence.wide.inRound l) n P ops Q rest a' w') :
    wpListIn (Fence.wide.inRound l) n P ops Q (⟨some d, .call ⟨.value (.func f), xs.toArray, ats⟩, ty, pos, aft, none⟩ :: rest) a w := by
  refine wpListIn_plain rfl fun K' hK => ⟨fun _ _ => trivial, ?_⟩
  rw [Fence.inRound_round, Oper.semAt_some _ _ _ (by intro c h; cases h), run_enter hf hx, Oper.uponIn_enter]
  refine ⟨fun h => (by simp [Fence.wide] at h), ?_⟩
  refine CallsIn.inRound l (callsIn_wide.2 (hc.mono fun e w' hr => ?_))
  obtain ⟨v, rfl, h⟩ := hR e w' hr
  exact hK _ _ (h _ (hf.put hN v))
end
/-- the way out of a function that ranged over a function -/
theorem EX_endM {P : Program} {K : Cx} {ρ : Env} {m : List HP} {fn : Func} {R : Ending → World → Prop} {D n : Nat} (hD : K.D = [⟨.collected D, #[]⟩]) (hr : fn.results = #[]) (hK : ∀ w, Holds K.w0 K.F m w → w.heap[D]? = some (.deferred (some [])))
    (h : ∀ w, Holds K.w0 K.F m w → R (.returned (.tuple #[])) (w.putObj D (.deferred none))) : EX K (bodyPostM Fence.wide n P fn R) .normal ρ m := ⟨fun a w hf hm => by
  show LeavesInM Fence.wide n P fn a.tmps R a.defers .returning w
  rw [hf.defs, hD]
  refine ⟨by simp, .inl ⟨D, _, rfl, run_takeDeferred (hK w hm), ?_⟩⟩
  exact ⟨_, results_none hr _ _ _, h w hm⟩⟩
end Go.Proofs.YtngeooflfkpikaaGreatDoor
namespace Go.Proofs.YtngeooflfkpikaaGreatDoor
open Go.RowKit Go.Shelf
/-- the first k of what comes: from the last place down -/
def backL (M k : Nat) : List (Fin (M + 1)) := (List.range k).map fun j => ⟨M - j, by omega⟩
theorem backL_succ (M k : Nat) : backL M (k + 1) = backL M k ++ [⟨M - k, by omega⟩] := by simp [backL, List.range_succ]
theorem backL_len (M k : Nat) : (backL M k).length = k := by simp [backL]
/-- what a round must keep: two blocks -/
def KeepTwo (g B : Nat) (W W' : World) : Prop := W'.heap[g]? = W.heap[g]? ∧ W'.heap[B]? = W.heap[B]?
theorem KeepTwo.trans {g B : Nat} {W W' W'' : World} (h : KeepTwo g B W W') (k : KeepTwo g B W' W'') : KeepTwo g B W W'' := ⟨k.1.trans h.1, k.2.trans h.2⟩
theorem KeepTwo.cellG {g B i : Nat} {W W' : World} (h : KeepTwo g B W W') : W'.cell? ⟨g, i, none⟩ = W.cell? ⟨g, i, none⟩ := by simp only [World.cell?, h.1]
theorem KeepTwo.cellB {g B i : Nat} {W W' : World} (h : KeepTwo g B W W') : W'.cell? ⟨B, i, none⟩ = W.cell? ⟨B, i, none⟩ := by simp only [World.cell?, h.2]
set_option maxRecDepth 100000 in
set_option maxHeartbeats 2000000 in
theorem back1_in (F : Fence) (n : Nat) (h59 : F.fn 171) (hro : F.round = none) (hn : 1 ≤ n) (l Bs g cap M : Nat) (zs : List Int) (hreach : M + 1 ≤ 100000) (J Jx : List (Fin (M + 1)) → World → Prop)
    (hY : ∀ pre x W, J pre W → pre.length < M + 1 → YieldAt F (n - 1) Tryz.prog l #[.int .i64 (x.val : Int), .int .i64 (zs[x.val]?.getD 0)] W fun e W' =>
      (e = .returned (.bool true) ∧ J (pre ++ [x]) W' ∧ KeepTwo g Bs W W') ∨ (e = .returned (.bool false) ∧ Jx (pre ++ [x]) W'))
    (W : World) (hBs : W.cell? ⟨Bs, 0, none⟩ = some (.slice (some ⟨g, 0, none⟩) (M + 1) cap)) (hc : ∀ j, j < M + 1 → W.cell? ⟨g, j, none⟩ = some (.int .i64 (zs[j]?.getD 0))) (h0 : J [] W) :
    CallsIn F n Tryz.prog 171 #[.func (.yield l) #[] #[], .pointer (some ⟨Bs, 0, none⟩)] W fun e W' => (∃ v, e = .returned v) ∧
      ((∃ ys, ys = backL M (M + 1) ∧ J ys W') ∨ (∃ pre, True ∧ Jx pre W')) := by
  refine callsIn_of_wp Tryz.func171 rfl h59 ?_ hro
  simp only [Tryz.ntmps171, List.size_toArray, List.length_cons, List.length_nil, Nat.reduceAdd, Nat.reduceSub, Array.replicate_succ, Array.replicate_zero, List.push_toArray, List.append_toArray, List.nil_append, List.cons_append]
  gi_wp2
  gi_loopw [3] (fun i wr => KeepTwo g Bs W wr ∧ ((∃ j : Nat, j ≤ M ∧ i = .int .i64 (j : Int) ∧ J (backL M (M - j)) wr) ∨ (i = .int .i64 (-1) ∧ J (backL M (M + 1)) wr)))
    (fun i _ => (intOf i + 1).toNat)
  case atStart => exact ⟨⟨rfl, rfl⟩, .inl ⟨M, Nat.le_refl _, rfl, by rw [Nat.sub_self]; exact h0⟩⟩
  case round =>
    obtain ⟨hkp, ⟨j, hj, rfl, hJs⟩ | ⟨rfl, hJs⟩⟩ := hrel
    · have hBs' := hkp.cellB.trans hBs
      have hcx := hkp.cellG.trans (hc j (by omega))
      obtain ⟨fn, tmps, assign, body, hy, hR⟩ := hY _ ⟨j, by omega⟩ wr hJs (by rw [backL_len]; omega)
      dsimp only at hy
      have hj1 : (j : Int) < (M : Int) + 1 := by omega
      have hj0 : (0 : Int) ≤ (j : Int) := by omega
      gi_wp2
      refine hR.mono ?_
      rintro e W3 (⟨rfl, hJ3, hk3⟩ | ⟨rfl, hJx3⟩)
      · gi_wp2
        go_roundw
        case rel =>
          refine ⟨hkp.trans hk3, ?_⟩
          have e0 := backL_succ M (M - j)
          have e1 : (⟨M - (M - j), by omega⟩ : Fin (M + 1)) = ⟨j, by omega⟩ := Fin.ext (by simp <;> omega)
          rw [e1] at e0
          rw [← e0] at hJ3
          cases j with
          | zero => exact .inr ⟨by simp, by simpa using hJ3⟩
          | succ i => exact .inl ⟨i, by omega, by simp, by rw [show M - i = M - (i + 1) + 1 by omega]; exact hJ3⟩
        case measure => simp [intOf] <;> omega
      · gi_wp2
        refine bodyPost_ret (results_none rfl _ _ _) rfl ?_
        exact ⟨⟨_, rfl⟩, .inr ⟨_, trivial, hJx3⟩⟩
    · gi_wp2
      go_end0
      exact ⟨⟨_, rfl⟩, .inl ⟨_, rfl, hJs⟩⟩
end Go.Proofs.YtngeooflfkpikaaGreatDoor
