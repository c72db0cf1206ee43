/-
  Calls through an interface; a deferred call that does not recover. Of no program.
-/
import Derived.Test.YtngeooflfkpikaaGreatDoorZGo
import Derived.Test.YtngeooflfkpikaaGreatDoorZAnyL
namespace Go.Proofs.YtngeooflfkpikaaGreatDoor
open Go.RowKit
/-- a type's method, by its name: the function, with the value itself as its receiver -/
class MethT (P : Program) (T : TypeId) (name : String) (f : outParam FuncId) : Prop where
  ok : ∀ (v : Value) (w : World), (Go.method (P.types.size + Made.depth) T v name).run P w = .ok (f, v) w
def notPtr : TypeDesc → Bool
  | .pointer _ => false
  | _ => true
theorem run_und {P : Program} {T : TypeId} {d : TypeDesc} (hd : P.underlying T = some d) (w : World) : (underlying T).run P w = .ok d w := by
  unfold underlying
  simp [hd, go_sem]
theorem run_info {P : Program} {T : TypeId} {i : TypeInfo} (hi : P.info? T = some i) (w : World) : (typeInfo T).run P w = .ok i w := by
  unfold typeInfo
  simp [hi, go_sem]
theorem methT_of {P : Program} {T : TypeId} {name : String} {f : FuncId} {i : TypeInfo} {d : TypeDesc} {n : Nat} (hn : P.types.size + Made.depth = n + 1) (hi : P.info? T = some i) (hm : (i.methods.find? (·.name == name)).map (fun m => (m.path, m.func)) = some (#[], some (f, false)))
    (hd : P.underlying T = some d) (hp : notPtr d = true) : MethT P T name f := ⟨fun v w => by
  rw [hn]
  cases hq : i.methods.find? (·.name == name) with
  | none => rw [hq] at hm; cases hm
  | some m =>
    rw [hq] at hm
    simp only [Option.map_some, Option.some.injEq, Prod.mk.injEq] at hm
    obtain ⟨h1, h2⟩ := hm
    have hr : ∀ wr, (receiverAt T (.val v) false wr).run P w = .ok v w := fun wr => by
      unfold receiverAt
      simp only [Sem.run_bind, run_und hd, Result.andThen]
      cases d <;> first | (simp [Place.get, go_sem]; done) | simp [notPtr] at hp
    unfold Go.method
    simp only [Sem.run_bind, run_info hi, Result.andThen, hq, h1, h2]
    simp [follow, hr, go_sem]⟩
/-- a box for a value of one cell -/
theorem WL_box1 {P : Program} {K : Cx} {ρ : Env} {m : List HP} {t ty : TypeId} {pos : String} {aft : Array Edge} {g : Option (Nat × Bool)} {x : Operand} {ops : Array Oper} {Q : Exit → Act → World → Prop} {rest : List Oper} {d : Nat} {v : Option Addr} (hx : opv ρ x = some (.pointer v)) (hg : guardB ops g ρ = some true) (hn : (guardN K.N ops g && Nat.blt d K.N) = true) (k : ∀ b : Nat, WL P K ops Q rest ((d, .pointer (some ⟨b, 0, none⟩)) :: ρ) (blk b t #[.pointer v] :: m)) :
    WL P K ops Q (⟨some d, .box t x, ty, pos, aft, g⟩ :: rest) ρ m := by
  refine ⟨fun a w hf hm => ?_⟩
  simp only [Bool.and_eq_true] at hn
  unfold wpList
  rw [if_pos (guard_wanted hf hg (guardN_spec hn.1))]
  refine .inl ?_
  have h : (execOp a.eval ⟨some d, .box t x, ty, pos, aft, g⟩).run P w = .ok (.value (.pointer (some ⟨w.heap.size, 0, none⟩))) (w.alloc (.cells #[.pointer v] t)) := by
    simp only [execOp, hf.eval hx]; simp [go_sem]
  unfold Oper.wp
  rw [h, Oper.upon_value]
  exact (k _).run _ _ (hf.put (blt_lt hn.2) _) (hm.new t #[.pointer v])
section ops
variable {P : Program} {K : Cx} {ρ : Env} {m m' r : List HP} {dst : Option Nat} {ty t t' : TypeId} {pos : String} {aft : Array Edge} {g : Option (Nat × Bool)} {v : Value} {x y z : Operand} {ops : Array Oper} {Q : Exit → Act → World → Prop} {rest : List Oper} {d : Nat} {G : Rd}
theorem run_enterM {N : Nat} {D : List Deferred} {a : Act} (hf : Fits N D a ρ) {T : TypeId} {u : Value} {name : String} {f : FuncId} [M : MethT P T name f] [S : FnT P f] (hy : opv ρ y = some (.iface T u)) {xs : List Operand} {ats : Array TypeId} {vs : List Value} (hx : opvs ρ xs = some vs) (w : World) :
    (execOp a.eval ⟨dst, .call ⟨.invoke y name, xs.toArray, ats⟩, ty, pos, aft, g⟩).run P w = .ok (.enter f (u :: vs).toArray) w := by
  have h1 := opvs_eval hf hx
  obtain ⟨fn, c, hfn, hb, hnm⟩ := S.ok
  have hm := M.ok u w
  have hm' : (Go.method (P.types.size + 100) T u name).run P w = .ok (f, u) w := hm
  simp only [execOp, resolve, List.map_toArray, h1, hf.eval hy]
  simp [invoke, callMethod, callFunc, hfn, hb, hnm, hm', go_sem]
/-- a call through an interface, that grows what may be read -/
theorem WL_callMG {T : TypeId} {u : Value} {name : String} {f : FuncId} [MM : MethT P T name f] [S : FnT P f] (hy : opv ρ y = some (.iface T u)) {xs : List Operand} {ats : Array TypeId} {vs : List Value} {m1 : List HP} (e : Ent m (ro K.w0 K.F G :: (m1 ++ r))) (hx : opvs ρ xs = some vs) (hg : guardB ops g ρ = some true)
    (hn : (guardN K.N ops g && Nat.blt d K.N) = true) {X : Type} {V : X → Value} {Gx : X → Rd} {M : X → List HP} {I : X → Prop}
    (hc : ∀ w fp, Holds K.w0 K.F (ro K.w0 K.F G :: (m1 ++ r)) w → Own m1 fp w → Rd.sub G fp w → (∀ i ∈ fp, i < K.w0.heap.size → i ∈ K.F) → Calls P f (u :: vs).toArray w fun e w' => ∃ x, I x ∧ e = .returned (V x) ∧ Rd.grow w G (Gx x) ∧ Holds w fp (ro w fp (Gx x) :: M x) w')
    (k : ∀ x, I x → Rd.grow K.w0 G (Gx x) → WL P K ops Q rest ((d, V x) :: ρ) (ro K.w0 K.F (Gx x) :: (M x ++ r))) : WL P K ops Q (⟨some d, .call ⟨.invoke y name, xs.toArray, ats⟩, ty, pos, aft, g⟩ :: rest) ρ m := by
  refine ⟨fun a w hf hm => ?_⟩
  simp only [Bool.and_eq_true] at hn
  unfold wpList
  rw [if_pos (guard_wanted hf hg (guardN_spec hn.1))]
  refine .inl ?_
  unfold Oper.wp
  rw [run_enterM hf hy hx, Oper.upon_enter]
  have hm' := hm.ent e
  obtain ⟨fp, h1, h2, h3, hsp⟩ := hm'.callR
  refine (hc w fp hm' h1 h2 h3).mono fun e w' hr => ?_
  obtain ⟨z, hz, rfl, hgr, hh⟩ := hr
  exact (k z hz (Rd.grow_up hm'.size hgr)).run _ _ (hf.put (blt_lt hn.2) _) (hsp _ _ _ hgr hh)
/-- the run of a deferred function that does not recover -/
theorem callsD_enter {f : FuncId} {fn : Func} {c : Code} {args : List Value} {w : World} {F : List Nat} {R : Ending → World → Prop} {N : Nat} {u : FrameMode} (hf : P.funcs[f]? = some fn) (hb : fn.body = some c) (hN : fn.ntmps = N) (hl : args.length ≤ N) (hm : Own m F w)
    (h : CW P ⟨N, [], w, F⟩ (QBody P fn R) c (argEnv 0 args) m) : CallsD P f args.toArray u w fun e u' w' => u' = u ∧ R e w' := by
  refine callsD_of_wp hf hb (h.run _ _ ⟨by simp; omega, rfl, fun n v hv => ?_⟩ (Holds.start hm))
  obtain ⟨_, h2⟩ := find_argEnv _ _ _ _ hv
  have hlt : n < args.length := by simpa using (List.getElem?_eq_some_iff.1 h2).1
  rw [Array.getD_eq_getD_getElem?, Array.getElem?_append_left (by simpa using hlt)]
  simp at h2
  simp [h2]
/-- one deferred call, behind a panic: it does not recover -/
theorem EX_panDN {fn : Func} {R : Ending → World → Prop} {f : FuncId} [S : FnT P f] {cap : Array Value} {pv : Value} (hD : K.D = [{ target := .fn (.func f) cap, args := #[] }])
    (h : ∀ a w, Fits K.N K.D a ρ → Holds K.w0 K.F m w → CallsD P f cap (.panicking [{ v := pv, recovered := false }]) w fun e u w' => ∃ x, e = .returned x ∧ u = .panicking [{ v := pv, recovered := false }] ∧ R (.panicked [{ v := pv, recovered := false }]) w') : EX K (QBodyD P fn R) (.panic [{ v := pv, recovered := false }]) ρ m := ⟨fun a w hf hm => by
  show Leaves P fn a.tmps R a.defers (.panicking [{ v := pv, recovered := false }]) w
  rw [hf.defs, hD]
  obtain ⟨fn', c, hfn, hb, hnm⟩ := S.ok
  refine leaves_cons (f := f) (args := cap) (by simp) (by simp [invoke, callFunc, hfn, hb, hnm, go_sem]) ((h a w hf hm).mono ?_)
  rintro e u w' ⟨x, rfl, rfl, h1⟩
  exact h1⟩
/-- a call with some of the caller's things that panics and gives them back -/
theorem WL_callPm {f : FuncId} [S : FnT P f] {xs : List Operand} {ats : Array TypeId} {vs : List Value} {m1 M : List HP} {C : List PanicEntry} (e : Ent m (ro K.w0 K.F G :: (m1 ++ r))) (hx : opvs ρ xs = some vs) (hg : guardB ops g ρ = some true)
    (hn : (guardN K.N ops g && Nat.blt d K.N) = true)
    (hc : ∀ w fp, Own m1 fp w → Rd.sub G fp w → Calls P f vs.toArray w fun e w' => e = .panicked C ∧ Holds w fp (ro w fp G :: M) w')
    (k : EX K Q (.panic C) ρ (ro K.w0 K.F G :: (M ++ r))) : WL P K ops Q (⟨some d, .call ⟨.value (.func f), xs.toArray, ats⟩, ty, pos, aft, g⟩ :: rest) ρ m :=
  WL_callGP (X := Empty) (Y := Unit) (V := fun x => x.elim) (Gx := fun x => x.elim) (M := fun x => x.elim) (I := fun x => x.elim) (C := fun _ => C) (Gy := fun _ => G) (MP := fun _ => M) (J := fun _ => True) e hx hg hn
    (fun w fp _ h1 h2 _ => (hc w fp h1 h2).mono fun _ _ ⟨he, hk⟩ => .inr ⟨(), trivial, he, Rd.grow_refl _ _, hk⟩) (fun x => x.elim) (fun _ _ _ => k)
end ops
end Go.Proofs.YtngeooflfkpikaaGreatDoor
