/-
  The logic of walks: the first part of a slice.
-/
import Derived.Test.YtdmapiaejcnibaaDoorGo
namespace Go.Proofs.YtdmapiaejcnibaaDoor
open Go.RowKit
section
variable {P : Program} {K : Cx} {ρ : Env} {m r : List HP} {ty : TypeId}
/-- a cut ahead of what stands behind a loop, memory told anew -/
theorem CW_midM {X : Type} {id : Nat} {Q : Exit → Act → World → Prop} (kp : Env) (_hk : Cov ρ kp) (R : X → Env) (M : X → List HP) (I : X → Prop) {x y : Code} (h : CW P K (QBlk id (QMid K (fun z => R z ++ kp) M I Q)) x ρ m) (k : ∀ z, I z → CW P K Q y (R z ++ kp) (M z)) : CW P K (QBlk id (QSeq P y Q)) x ρ m := by
  have key : ∀ e a w, QMid K (fun z => R z ++ kp) M I Q e a w → QSeq P y Q e a w := by
    intro e a w hq
    cases e <;> first
      | exact hq
      | (obtain ⟨z, hz, hzf, hzm⟩ := hq; exact (k z hz).run _ _ hzf hzm)
  refine ⟨fun a w hf hm => wp_mono (h.run a w hf hm) fun e a' w' hq => ?_⟩
  unfold QBlk Exit.inBlock at hq ⊢
  cases e <;> first
    | exact key _ _ _ hq
    | (dsimp only at hq ⊢; split at hq <;> (rename_i he; first | rw [if_pos he] | rw [if_neg he]) <;> exact key _ _ _ hq)
/-- the first part of a slice -/
theorem y_sliceH {dst : Option Nat} {t : TypeId} {pos : String} {aft : Array Edge} {g : Option (Nat × Bool)} {x z : Operand} {e : TypeId} {sz : Nat} [S : SlT P t e sz] {p : Option Addr} {n c h : Nat} {k : IntKind} (hx : opv ρ x = some (.slice p n c)) (hz : opv ρ z = some (.int k (h : Int))) (h3 : h ≤ c) : Yi P K ρ m ⟨dst, .slice t x none (some z) none, ty, pos, aft, g⟩ (.slice p h c) := ⟨fun _ w hf _ => by
  have he : P.elem t = e := by simp [Program.elem, S.und]
  have ht' : P.underlying t = some (.slice (P.elem t)) := by rw [he]; exact S.und
  have h4 : (Instr.sliceAt t (.slice p n c) none (some (.int k (h : Int))) none).run P w = .ok (.slice p h c) w := by
    rw [run_sliceAt_slice (w := w) t _ _ _ _ ht', run_slice_h (w := w) t p n c ht' k (h : Int) (by omega) (by omega), he, S.size w]
    simp only [Result.andThen, sliced]
    cases p with
    | none => simp
    | some a => simp [add_zero]
  simp only [execOp, Option.map_some, Option.map_none, hf.eval hx, hf.eval hz]
  simp [h4]⟩
/-- the first part of a slice of the call's own -/
theorem y_sliceHO {dst : Option Nat} {t : TypeId} {t' : TypeId} {pos : String} {aft : Array Edge} {g : Option (Nat × Bool)} {x z : Operand} {e : TypeId} {sz : Nat} [S : SlT P t e sz] {p : Option Addr} {n c h : Nat} {k : IntKind} {xs : List Value} (hx : opv ρ x = some (.slice p n c)) (hz : opv ρ z = some (.int k (h : Int))) (hp : Pick m (sl t' sz p n c xs) r) (h3 : h ≤ n) : Yi P K ρ m ⟨dst, .slice t x none (some z) none, ty, pos, aft, g⟩ (.slice p h c) := ⟨fun a w hf hm => by
  have hc : h ≤ c := by
    rcases (hm.slR hp).2 with ⟨hv, h0⟩ | ⟨g, cap, cur, hv, _, _, hnc, _⟩
    · omega
    · simp only [Value.slice.injEq] at hv
      omega
  exact (y_sliceH hx hz hc).run a w hf hm⟩
/-- the first elements of a slice of the call's own -/
theorem Ent.pop {e : TypeId} {sz n k c : Nat} {p : Option Addr} {xs ys : List Value} {m' : List HP} (hp : Pick m (sl e sz p (n + k) c (xs ++ ys)) r) (hx : xs.length = n * sz) (kk : Ent r m') : Ent m (sl e sz p n c xs :: m') := fun fp w ho => by
  obtain ⟨f1, f2, he, ⟨hf1, hown⟩, k2, kd⟩ := hp.own ho
  obtain ⟨f3, h3, hs⟩ := kk f2 w k2
  refine ⟨f1 ++ f3, ⟨f1, f3, rfl, ⟨hf1, hx, ?_⟩, h3, fun i hi h => kd i hi (hs i h)⟩, fun i hi => ?_⟩
  · rcases hown.2 with ⟨hv, h0⟩ | ⟨g, cap, cur, hv, hb, hg, hnc, hcm, hcs, ht⟩
    · simp only [Value.slice.injEq] at hv
      obtain ⟨rfl, _, rfl⟩ := hv
      have : n = 0 := by omega
      subst this
      exact .inl ⟨rfl, rfl⟩
    · simp only [Value.slice.injEq] at hv
      obtain ⟨rfl, _, rfl⟩ := hv
      refine .inr ⟨g, c, cur, rfl, hb, hg, by omega, hcm, hcs, ?_⟩
      have := congrArg (List.take (n * sz)) ht
      rw [List.take_take, Nat.min_eq_left (Nat.mul_le_mul_right _ (by omega)), ← hx, List.take_left] at this
      rw [← hx]; exact this
  · rcases List.mem_append.1 hi with hi | hi
    · exact (he i).2 (.inl hi)
    · exact (he i).2 (.inr (hs i hi))
end
end Go.Proofs.YtdmapiaejcnibaaDoor
