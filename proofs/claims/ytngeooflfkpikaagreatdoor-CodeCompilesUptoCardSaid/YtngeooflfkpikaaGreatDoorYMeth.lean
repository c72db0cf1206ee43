/-
  The logic of walks: function values; calls that turn the caller's things, or panic; deferred calls. Of no program.
  Calls through an interface; a deferred call that does not recover. Of no program.
-/
import Derived.Test.YtngeooflfkpikaaGreatDoorYRd
import Derived.Defers
import Derived.Recover
import Derived.Test.YtngeooflfkpikaaGreatDoorYGo
namespace Go.Proofs.YtngeooflfkpikaaGreatDoor
open Go.RowKit
theorem Own.blk {w : World} {b : Nat} {T : TypeId} {cs : Array Value} (h : w.heap[b]? = some (.cells cs T (0, 0))) : Own [Go.Proofs.YtngeooflfkpikaaGreatDoor.blk b T cs] [b] w := ⟨[b], [], rfl, ⟨rfl, h⟩, rfl, by simp⟩
/-- a block that was only read -/
theorem Holds.same {w w' : World} {b : Nat} {T : TypeId} {cs : Array Value} {m r : List HP} (hh : Holds w [b] m w') (hp : Pick m (Go.Proofs.YtngeooflfkpikaaGreatDoor.blk b T cs) r) (h : w.heap[b]? = some (.cells cs T (0, 0))) : Below w.heap.size w w' := by
  have h1 := hh.blk hp
  refine ⟨hh.keep.os, hh.keep.tape, hh.keep.output, hh.keep.size, fun k hk => ?_⟩
  by_cases e : k = b
  · subst e; rw [h1, h]
  · exact hh.keep.block k hk (by simpa using e)
section ops
variable {P : Program} {K : Cx} {ρ : Env} {m m' r : List HP} {dst : Option Nat} {ty t t' : TypeId} {pos : String} {aft : Array Edge} {g : Option (Nat × Bool)} {v : Value} {x y z : Operand} {ops : Array Oper} {Q : Exit → Act → World → Prop} {rest : List Oper} {d : Nat} {G : Rd}
/-- .. with a thing more of the call's own -/
theorem WL_callUX {f : FuncId} [S : FnT P f] {xs : List Operand} {ats : Array TypeId} {vs : List Value} {m1 : List HP} (e : Ent m (ro K.w0 K.F G :: (m1 ++ r))) (hx : opvs ρ xs = some vs) (hg : guardB ops g ρ = some true)
    (hn : (guardN K.N ops g && Nat.blt d K.N) = true) {X : Type} {V : X → Value} {M : X → List HP} {I : X → Prop}
    (hc : ∀ w fp, Own m1 fp w → Rd.sub G fp w → Calls P f vs.toArray w fun e w' => ∃ x, I x ∧ e = .returned (V x) ∧ Holds w fp (ro w fp G :: M x) w')
    (k : ∀ x, I x → WL P K ops Q rest ((d, V x) :: ρ) (ro K.w0 K.F G :: (M x ++ r))) : WL P K ops Q (⟨some d, .call ⟨.value (.func f), xs.toArray, ats⟩, ty, pos, aft, g⟩ :: rest) ρ m :=
  WL_callG (V := V) (Gx := fun _ => G) (M := M) (I := I) e hx hg hn (fun w fp _ h1 h2 _ => (hc w fp h1 h2).mono fun _ _ ⟨z, hz, he, hh⟩ => ⟨z, hz, he, Rd.grow_refl _ _, hh⟩) (fun z hz _ => k z hz)
/-- .. that panics -/
theorem WL_callUP {f : FuncId} [S : FnT P f] {xs : List Operand} {ats : Array TypeId} {vs : List Value} {m1 : List HP} {C : List PanicEntry} (e : Ent m (ro K.w0 K.F G :: (m1 ++ r))) (hx : opvs ρ xs = some vs) (hg : guardB ops g ρ = some true)
    (hn : (guardN K.N ops g && Nat.blt d K.N) = true)
    (hc : ∀ w fp, Own m1 fp w → Rd.sub G fp w → Calls P f vs.toArray w fun e w' => e = .panicked C ∧ Keep w fp w')
    (k : EX K Q (.panic C) ρ (ro K.w0 K.F G :: r)) : WL P K ops Q (⟨some d, .call ⟨.value (.func f), xs.toArray, ats⟩, ty, pos, aft, g⟩ :: rest) ρ m :=
  WL_callGP (X := Empty) (Y := Unit) (V := fun x => x.elim) (Gx := fun x => x.elim) (M := fun x => x.elim) (I := fun x => x.elim) (C := fun _ => C) (Gy := fun _ => G) (MP := fun _ => []) (J := fun _ => True) e hx hg hn
    (fun w fp _ h1 h2 _ => (hc w fp h1 h2).mono fun _ w' ⟨he, hk⟩ => .inr ⟨(), trivial, he, Rd.grow_refl _ _, ⟨hk, [], ⟨[], [], rfl, ⟨by simp, fun a v ea => .inr ⟨cell_lt (h2 a v ea).1, (h2 a v ea).2, (h2 a v ea).1⟩⟩, rfl, by simp⟩, by simp⟩⟩) (fun x => x.elim) (fun _ _ _ => k)
theorem WL_callUP1 {f : FuncId} [S : FnT P f] {xs : List Operand} {ats : Array TypeId} {vs : List Value} {h : HP} {C : List PanicEntry} (hp : Pick m (ro K.w0 K.F G) m') (hp' : Pick m' h r) (hx : opvs ρ xs = some vs) (hg : guardB ops g ρ = some true)
    (hn : (guardN K.N ops g && Nat.blt d K.N) = true)
    (hc : ∀ w fp, Own [h] fp w → Rd.sub G fp w → Calls P f vs.toArray w fun e w' => e = .panicked C ∧ Keep w fp w')
    (k : EX K Q (.panic C) ρ (ro K.w0 K.F G :: r)) : WL P K ops Q (⟨some d, .call ⟨.value (.func f), xs.toArray, ats⟩, ty, pos, aft, g⟩ :: rest) ρ m :=
  WL_callUP (m1 := [h]) (Ent.cons hp (Ent.cons hp' Ent.refl)) hx hg hn hc k
/-! ## deferred calls -/
theorem y_makeFunc {f : Fn} {cs : List Operand} {vs : List Value} (hx : opvs ρ cs = some vs) : Yi P K ρ m ⟨dst, .makeFunc f #[] cs.toArray, ty, pos, aft, g⟩ (.func f #[] vs.toArray) := ⟨fun a w hf _ => by
  have h1 := opvs_eval hf hx
  simp only [execOp, List.map_toArray, h1]
  rfl⟩
theorem WL_defer {f : Fn} {cap : Array Value} (hy : opv ρ y = some (.func f #[] cap)) (hg : guardB ops g ρ = some true) (hn : guardN K.N ops g = true)
    (k : WL P { K with D := { target := .fn f cap, args := #[] } :: K.D } ops Q rest ρ m) : WL P K ops Q (⟨none, .defer ⟨.value y, #[], #[]⟩, ty, pos, aft, g⟩ :: rest) ρ m := by
  refine ⟨fun a w hf hm => ?_⟩
  unfold wpList
  rw [if_pos (guard_wanted hf hg (guardN_spec hn))]
  refine .inl ?_
  have h : (execOp a.eval ⟨none, .defer ⟨.value y, #[], #[]⟩, ty, pos, aft, g⟩).run P w = .ok (.defer { target := .fn f cap, args := #[] }) w := by
    simp only [execOp, resolve, hf.eval hy]
    simp [Deferred.ofValue, go_sem]
  unfold Oper.wp
  rw [h, Oper.upon_defer]
  exact k.run _ _ ⟨hf.size, by rw [← hf.defs]; rfl, hf.get⟩ hm
def QBodyD (P : Program) (fn : Func) (R : Ending → World → Prop) : Exit → Act → World → Prop := bodyPostD P fn R
/-- into a function that defers -/
theorem enterD {f : FuncId} {fn : Func} {c : Code} {args : List Value} {w : World} {F : List Nat} {R : Ending → World → Prop} {N : Nat} (hf : P.funcs[f]? = some fn) (hb : fn.body = some c) (hN : fn.ntmps = N) (hl : args.length ≤ N) (hm : Own m F w)
    (h : CW P ⟨N, [], w, F⟩ (QBodyD P fn R) c (argEnv 0 args) m) : Calls P f args.toArray w R := by
  refine calls_of_wp_defers hf hb (h.run _ _ ⟨by simp; omega, rfl, fun n v hv => ?_⟩ (Holds.start hm))
  obtain ⟨_, h2⟩ := find_argEnv _ _ _ _ hv
  have hlt : n < args.length := by simpa using (List.getElem?_eq_some_iff.1 h2).1
  rw [Array.getD_eq_getD_getElem?, Array.getElem?_append_left (by simpa using hlt)]
  simp at h2
  simp [h2]
/-- nothing is deferred yet: the result is told -/
theorem EX_retD0 {fn : Func} {R : Ending → World → Prop} (hD : K.D = []) (h : ∀ a w, Fits K.N K.D a ρ → Holds K.w0 K.F m w → ∃ v, (results fn a.tmps).run P w = .ok v w ∧ R (.returned v) w) : EX K (QBodyD P fn R) .ret ρ m := ⟨fun a w hf hm => by
  show Leaves P fn a.tmps R a.defers .returning w
  rw [hf.defs, hD]
  exact h a w hf hm⟩
/-- one deferred call, behind a return -/
theorem EX_retD1 {fn : Func} {R : Ending → World → Prop} {f : FuncId} [S : FnT P f] {cap : Array Value} (hD : K.D = [{ target := .fn (.func f) cap, args := #[] }])
    (h : ∀ a w, Fits K.N K.D a ρ → Holds K.w0 K.F m w → CallsD P f cap .returning w fun e u w' => ∃ x, e = .returned x ∧ u = .returning ∧ ∃ v, (results fn a.tmps).run P w' = .ok v w' ∧ R (.returned v) w') : EX K (QBodyD P fn R) .ret ρ m := ⟨fun a w hf hm => by
  show Leaves P fn a.tmps R a.defers .returning w
  rw [hf.defs, hD]
  obtain ⟨fn', c, hfn, hb, hnm⟩ := S.ok
  refine leaves_cons (f := f) (args := cap) (by simp) (by simp [invoke, callFunc, hfn, hb, hnm, go_sem]) ((h a w hf hm).mono ?_)
  rintro e u w' ⟨x, rfl, rfl, v, h1, h2⟩
  exact ⟨v, h1, h2⟩⟩
/-- one deferred call, behind a panic: it recovers -/
theorem EX_panD1 {fn : Func} {R : Ending → World → Prop} {f : FuncId} [S : FnT P f] {cap : Array Value} {pv : Value} (hD : K.D = [{ target := .fn (.func f) cap, args := #[] }])
    (h : ∀ a w, Fits K.N K.D a ρ → Holds K.w0 K.F m w → CallsD P f cap (.panicking [{ v := pv, recovered := false }]) w fun e u w' => ∃ x, e = .returned x ∧ u = .panicking [{ v := pv, recovered := true }] ∧ ∃ v, (results fn a.tmps).run P w' = .ok v w' ∧ R (.returned v) w') : EX K (QBodyD P fn R) (.panic [{ v := pv, recovered := false }]) ρ m := ⟨fun a w hf hm => by
  show Leaves P fn a.tmps R a.defers (.panicking [{ v := pv, recovered := false }]) w
  rw [hf.defs, hD]
  obtain ⟨fn', c, hfn, hb, hnm⟩ := S.ok
  refine leaves_cons (f := f) (args := cap) (by simp) (by simp [invoke, callFunc, hfn, hb, hnm, go_sem]) ((h a w hf hm).mono ?_)
  rintro e u w' ⟨x, rfl, rfl, v, h1, h2⟩
  exact ⟨v, h1, h2⟩⟩
end ops
end Go.Proofs.YtngeooflfkpikaaGreatDoor
namespace Go.Proofs.YtngeooflfkpikaaGreatDoor
open Go.RowKit
/-- a box for a value of one cell -/
theorem WL_box1 {P : Program} {K : Cx} {ρ : Env} {m : List HP} {t ty : TypeId} {pos : String} {aft : Array Edge} {g : Option (Nat × Bool)} {x : Operand} {ops : Array Oper} {Q : Exit → Act → World → Prop} {rest : List Oper} {d : Nat} {v : Option Addr} (hx : opv ρ x = some (.pointer v)) (hg : guardB ops g ρ = some true) (hn : (guardN K.N ops g && Nat.blt d K.N) = true) (k : ∀ b : Nat, WL P K ops Q rest ((d, .pointer (some ⟨b, 0, none⟩)) :: ρ) (blk b t #[.pointer v] :: m)) :
    WL P K ops Q (⟨some d, .box t x, ty, pos, aft, g⟩ :: rest) ρ m := by
  refine ⟨fun a w hf hm => ?_⟩
  simp only [Bool.and_eq_true] at hn
  unfold wpList
  rw [if_pos (guard_wanted hf hg (guardN_spec hn.1))]
  refine .inl ?_
  have h : (execOp a.eval ⟨some d, .box t x, ty, pos, aft, g⟩).run P w = .ok (.value (.pointer (some ⟨w.heap.size, 0, none⟩))) (w.alloc (.cells #[.pointer v] t)) := by
    simp only [execOp, hf.eval hx]; simp [go_sem]
  unfold Oper.wp
  rw [h, Oper.upon_value]
  exact (k _).run _ _ (hf.put (blt_lt hn.2) _) (hm.new t #[.pointer v])
section ops
variable {P : Program} {K : Cx} {ρ : Env} {m m' r : List HP} {dst : Option Nat} {ty t t' : TypeId} {pos : String} {aft : Array Edge} {g : Option (Nat × Bool)} {v : Value} {x y z : Operand} {ops : Array Oper} {Q : Exit → Act → World → Prop} {rest : List Oper} {d : Nat} {G : Rd}
end ops
end Go.Proofs.YtngeooflfkpikaaGreatDoor
