/-
  The logic of walks: slices of nothing; a row, empty or not, behind a slice of the call's own. Of no program.
-/
import Derived.Test.YtanbifmcnkhdhaaGreatDoorGo
import Derived.Test.YtanbifmcnkhdhaaGreatDoorPar
namespace Go.Proofs.YtanbifmcnkhdhaaGreatDoor
open Go.RowKit

section
variable {P : Program} {K : Cx} {ops : Array Oper} {ρ : Env} {m r : List HP} {t ty e : TypeId} {pos : String} {aft : Array Edge} {g : Option (Nat × Bool)} {x y : Operand} {Q : Exit → Act → World → Prop} {rest : List Oper} {d n c sz bytes : Nat} {zs xs : List Value} {p : Option Addr} {G : Rd}
theorem run_append_none0 {w : World} (base : Nat) (i : TypeInfo) (size : Nat) (ht : P.underlying t = some (.slice e)) (hi : P.info? e = some i) (v : Value) (c0 : Nat) (hown : w.ownsRow base e size v n xs) :
    (Builtin.append_ #[t, t] ty #[v, .slice none 0 c0]).run P w = .ok v w := by
  rcases hown.2 with ⟨rfl, rfl⟩ | ⟨g, cap, cur, rfl, _, _, hnc, _⟩
  · simp [Builtin.append_, run_underlying ht, sizeOf, typeInfo, hi, Builtin.lenOf, Builtin.firstCells]
  · simp [Builtin.append_, run_underlying ht, sizeOf, typeInfo, hi, Builtin.lenOf, Builtin.firstCells, hnc, storeCells]
/-- a row is appended, be it empty -/
theorem WL_appendRowG {α : Type} {enc : α → List Value} {ys : List α} {cp : Nat} {qp : Option Addr} [S : ElT P t e sz zs bytes] (hs : ∀ x, (enc x).length = sz) (h0 : 0 < sz) (h1 : ∀ x ∈ ys, ∀ u ∈ enc x, u.oneCell' = true) (hR : Row enc sz G qp cp ys) (hx : opv ρ x = some (.slice p n c)) (hy : opv ρ y = some (.slice qp ys.length cp)) (hp : Pick m (sl e sz p n c xs) r) {r2 : List HP} (hro : Pick m (ro K.w0 K.F G) r2)
    (hmax : (n + ys.length) * bytes ≤ 140737488355328) (hmax2 : n + ys.length ≤ 140737488355328) (hg : guardB ops g ρ = some true) (hn : (guardN K.N ops g && Nat.blt d K.N) = true)
    (k : ∀ q2 c2, WL P K ops Q rest ((d, .slice q2 (n + ys.length) c2) :: ρ) (sl e sz q2 (n + ys.length) c2 (xs ++ ys.flatMap enc) :: r)) : WL P K ops Q (⟨some d, .call ⟨.builtin .append, #[x, y], #[t, t]⟩, ty, pos, aft, g⟩ :: rest) ρ m := by
  cases qp with
  | none =>
    have hys : ys = [] := by
      cases ys with
      | nil => rfl
      | cons y ys => have := hR.some_lt (i := 0) (by simp); simp at this
    subst hys
    refine WL_step hg hn fun a w hf hm => ?_
    obtain ⟨i, z, hi, hz, hsz, hby, hzs⟩ := S.info
    refine ⟨_, _, w, run_bi hf hx hy (run_append_none0 0 i sz S.und hi (.slice p n c) cp (hm.slR hp)), ?_, k p c⟩
    simp only [List.length_nil, Nat.add_zero, List.flatMap_nil, List.append_nil]
    exact hm.ent (Ent.cons hp Ent.refl)
  | some q =>
    have hlen : ∀ ys : List α, (ys.flatMap enc).length = ys.length * sz := by
      intro ys
      induction ys with
      | nil => simp
      | cons y ys ih => rw [List.flatMap_cons, List.length_append, hs, ih, List.length_cons, Nat.succ_mul]; omega
    refine WL_step hg hn fun a w hf hm => ?_
    obtain ⟨q2, c2, w', hr, hh, _⟩ := append_core (P := P) (t := t) (ty := ty) (c' := cp) hm hp (row_cells hs h0 hR (hm.le hro)) (hlen ys) (fun u hu => by obtain ⟨z, hzm, hz⟩ := List.mem_flatMap.1 hu; exact h1 z hzm u hz) hmax hmax2
    exact ⟨_, _, w', run_bi hf hx hy hr, hh, k q2 c2⟩
/-- a slice of no elements -/
theorem WL_bslice0 [S : ElT P t e sz zs bytes] (hg : guardB ops g ρ = some true) (hn : (guardN K.N ops g && Nat.blt d K.N) = true)
    (k : ∀ b, WL P K ops Q rest ((d, .slice (some ⟨b, 0, none⟩) 0 0) :: ρ) (sl e sz (some ⟨b, 0, none⟩) 0 0 [] :: m)) : WL P K ops Q (⟨some d, .buildSlice t 0 #[], ty, pos, aft, g⟩ :: rest) ρ m := by
  refine WL_step hg hn fun a w hf hm => ?_
  obtain ⟨i, z, hi, hz, hsz, hby, hzs⟩ := S.info
  refine ⟨_, _, w.alloc (.cells #[] e), ?_, (hm.new e #[]).ent (Ent.blkSlN (n := 0) (xs := []) .here rfl (by simp) (by decide) Ent.refl), k w.heap.size⟩
  simp only [execOp]
  simp [Instr.buildSlice, run_underlying S.und, sizeOf, typeInfo, hi, Instr.fill, go_sem]
end
end Go.Proofs.YtanbifmcnkhdhaaGreatDoor
