/-
  The logic of walks: several results, of which the first lies in a variable.
  The logic of walks: a block as a slice of the call's own.
-/
import Derived.Test.YtanbifmcnkhdhaaGreatDoorGo
namespace Go.Proofs.YtanbifmcnkhdhaaGreatDoor
open Go.RowKit
section
variable {P : Program} {K : Cx} {ρ : Env} {m r : List HP} {ty : TypeId} {fs : List (Nat × Nat)} {zs : List Value}
theorem results_c3 {fn : Func} {n u x : Nat} {w : World} {tmps : Array Value} {a : Addr} {cs : List Value} {v1 v2 : Value} [S : StT P ty fs zs] (hr : fn.results = #[.cell n ty, .tmp u, .tmp x]) (ht : tmps.getD n undef = .pointer (some a)) (hc : ∀ j v, cs[j]? = some v → w.cell? (a.add j) = some v) (hl : cs.length = zs.length) (h1 : tmps.getD u undef = v1) (h2 : tmps.getD x undef = v2) : (results fn tmps).run P w = .ok (.tuple #[.agg cs.toArray, v1, v2]) w := by
  have h0 := run_loadCells_list (P := P) (w := w) a cs hc
  rw [hl] at h0
  unfold loadCells at h0
  rw [Array.getD_eq_getD_getElem?] at ht h1 h2
  simp [results, hr, ht, h1, h2, asAddr, loadVar, S.agg, S.size, h0, go_sem]
/-- three results, of which the first lies in a variable -/
theorem EX_retC3 {fn : Func} {R : Ending → World → Prop} {n b off u x : Nat} {T : TypeId} {cs : Array Value} {v1 v2 : Value} [S : StT P ty fs zs] (hD : K.D = []) (hr : fn.results = #[.cell n ty, .tmp u, .tmp x]) (ht : ρ.find n = some (.pointer (some ⟨b, off, none⟩))) (h1 : ρ.find u = some v1) (h2 : ρ.find x = some v2) (hp : Pick m (blk b T cs) r) (hl : Nat.ble (off + zs.length) cs.toList.length = true)
    (h : ∀ w, Holds K.w0 K.F m w → R (.returned (.tuple #[.agg ((cs.toList.drop off).take zs.length).toArray, v1, v2])) w) : EX K (QBody P fn R) .ret ρ m := ⟨fun a w hf hm => by
  have h0 := Nat.le_of_ble_eq_true hl
  have e1 : ((cs.toList.drop off).take zs.length).length = zs.length := by simp at h0 ⊢; omega
  refine ⟨hf.defs.trans hD, _, results_c3 (P := P) (ty := ty) hr (hf.get n _ ht) (rd_blk (K := K) hp (by rw [e1]) w hm) e1 (hf.get u _ h1) (hf.get x _ h2), h w hm⟩⟩
theorem y_quoT {dst : Option Nat} {t t' : TypeId} {pos : String} {aft : Array Edge} {g : Option (Nat × Bool)} {x y : Operand} {a b : Int} (hx : opv ρ x = some (.int .i64 a)) (hy : opv ρ y = some (.int .i64 b)) (h : b ≠ 0) (hI : -9223372036854775808 ≤ a.tdiv b ∧ a.tdiv b ≤ 9223372036854775807) : Yi P K ρ m ⟨dst, .binOp .quo t x y t', ty, pos, aft, g⟩ (.int .i64 (a.tdiv b)) := by
  have := y_quo_w (P := P) (K := K) (m := m) (dst := dst) (ty := ty) (t := t) (t' := t') (pos := pos) (aft := aft) (g := g) hx hy h
  rwa [IntWalk.i64_in _ hI] at this
/-- a cut ahead of what stands behind a loop -/
theorem CW_midB {X : Type} {id : Nat} {Q : Exit → Act → World → Prop} (kp : Env) (_hk : Cov ρ kp) (R : X → Env) (I : X → Prop) {x y : Code} (h : CW P K (QBlk id (QMid K (fun z => R z ++ kp) (fun _ => m) I Q)) x ρ m) (k : ∀ z, I z → CW P K Q y (R z ++ kp) m) : CW P K (QBlk id (QSeq P y Q)) x ρ m := by
  have key : ∀ e a w, QMid K (fun z => R z ++ kp) (fun _ => m) I Q e a w → QSeq P y Q e a w := by
    intro e a w hq
    cases e <;> first
      | exact hq
      | (obtain ⟨z, hz, hzf, hzm⟩ := hq; exact (k z hz).run _ _ hzf hzm)
  refine ⟨fun a w hf hm => wp_mono (h.run a w hf hm) fun e a' w' hq => ?_⟩
  unfold QBlk Exit.inBlock at hq ⊢
  cases e <;> first
    | exact key _ _ _ hq
    | (dsimp only at hq ⊢; split at hq <;> (rename_i he; first | rw [if_pos he] | rw [if_neg he]) <;> exact key _ _ _ hq)
/-- a block, its cells told anew (by kernel_rfl) -/
theorem Ent.consK {b b' : Nat} {T : TypeId} {cs cs' : Array Value} {m' : List HP} (hp : Pick m (blk b T cs) r) (hb : b = b' := by rfl) (e : cs = cs' := by kernel_rfl) (k : Ent r m') : Ent m (blk b' T cs' :: m') := hb ▸ e ▸ Ent.cons hp k
theorem rd_slI {e : TypeId} {n c i : Nat} {p : Option Addr} {xs : List Int} (hp : Pick m (sl e 1 p n c (xs.map (Value.int .i64))) r) (hi : i < xs.length) : RdC K m (addrAt p i) [.int .i64 (xs.getD i 0)] :=
  rd_own1 hp (by rw [List.getElem?_map, List.getD_eq_getElem?_getD, List.getElem?_eq_getElem hi]; rfl)
theorem zv1 {ops : Array Oper} {Q : Exit → Act → World → Prop} {rest : List Oper} {d : Nat} {t : TypeId} {pos : String} {aft : Array Edge} {g : Option (Nat × Bool)} {x : Operand} {e : TypeId} {n c i : Nat} {p : Option Addr} {xs : List Int} (k : WL P K ops Q rest ((d, .int .i64 (xs.getD i 0)) :: ρ) m) (hx : opv ρ x = some (.pointer (some (addrAt p i))) := by rfl) (hp : Pick m (sl e 1 p n c (xs.map (Value.int .i64))) r := by (first | exact .here | exact .there .here | exact .there (.there .here) | exact .there (.there (.there .here)) | exact .there (.there (.there (.there .here))) | exact .there (.there (.there (.there (.there .here)))))) (hi : i < xs.length := by omega) (hg : guardB ops g ρ = some true := by rfl) (hN : (guardN K.N ops g && Nat.blt d K.N) = true := by rfl) [S : NAgg P t] : WL P K ops Q (⟨some d, .load t x, ty, pos, aft, g⟩ :: rest) ρ m := WL_op hg hN (y_load hx (rd_slI hp hi)) k
theorem zv2 {ops : Array Oper} {L : Act → Prop} {rest : List Oper} {d : Nat} {t : TypeId} {pos : String} {aft : Array Edge} {g : Option (Nat × Bool)} {x : Operand} {e : TypeId} {n c i : Nat} {p : Option Addr} {xs : List Int} (k : WQ P K ops L rest ((d, .int .i64 (xs.getD i 0)) :: ρ) m) (hx : opv ρ x = some (.pointer (some (addrAt p i))) := by rfl) (hp : Pick m (sl e 1 p n c (xs.map (Value.int .i64))) r := by (first | exact .here | exact .there .here | exact .there (.there .here) | exact .there (.there (.there .here)) | exact .there (.there (.there (.there .here))) | exact .there (.there (.there (.there (.there .here)))))) (hi : i < xs.length := by omega) (hg : guardB ops g ρ = some true := by rfl) (hN : (guardN K.N ops g && Nat.blt d K.N) = true := by rfl) [S : NAgg P t] : WQ P K ops L (⟨some d, .load t x, ty, pos, aft, g⟩ :: rest) ρ m := WQ_op hg hN (y_load hx (rd_slI hp hi)) k
end
end Go.Proofs.YtanbifmcnkhdhaaGreatDoor

namespace Go.Proofs.YtanbifmcnkhdhaaGreatDoor
open Go.RowKit
theorem Ent.blkSl {m r m' : List HP} {b n : Nat} {e : TypeId} {cs : Array Value} {xs : List Value} (hp : Pick m (blk b e cs) r) (hc : cs = xs.toArray) (hn : xs.length = n) (hm : n ≤ 1099511627776) (kk : Ent r m') : Ent m (sl e 1 (some ⟨b, 0, none⟩) n n xs :: m') := fun fp w ho => by
  obtain ⟨f1, f2, he, ⟨rfl, hb⟩, k2, kd⟩ := hp.own ho
  obtain ⟨f3, h3, hs⟩ := kk f2 w k2
  subst hc
  refine ⟨[b] ++ f3, ⟨[b], f3, rfl, ⟨rfl, by rw [hn, Nat.mul_one], .inr ⟨b, n, _, rfl, Nat.zero_le _, hb, Nat.le_refl _, by unfold maxLen; omega, by simp [hn], by rw [Nat.mul_one, ← hn]; simp⟩⟩, h3, fun i hi h => kd i hi (hs i h)⟩, fun i hi => ?_⟩
  rcases List.mem_append.1 hi with hi | hi
  · exact (he i).2 (.inl hi)
  · exact (he i).2 (.inr (hs i hi))
end Go.Proofs.YtanbifmcnkhdhaaGreatDoor
