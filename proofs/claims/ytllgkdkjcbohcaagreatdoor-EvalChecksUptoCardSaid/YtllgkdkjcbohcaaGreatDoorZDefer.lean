/-
  The logic of walks: functions that turn nothing: what they leave may be read from there on. Of no program.
  The logic of walks: function values; calls that turn the caller's things, or panic; deferred calls. Of no program.
-/
import Derived.Test.YtllgkdkjcbohcaaGreatDoorZGo
import Derived.Test.YtllgkdkjcbohcaaGreatDoorZPar
import Derived.Test.YtllgkdkjcbohcaaGreatDoorZPerm
import Derived.Test.YtllgkdkjcbohcaaGreatDoorZTokRow
import Derived.Test.YtllgkdkjcbohcaaGreatDoorZRd
import Derived.Defers
import Derived.Recover
namespace Go.Proofs.YtllgkdkjcbohcaaGreatDoor
open Go.RowKit
section
variable {P : Program} {K : Cx} {ρ ρp : Env} {m m0 : List HP} {Q : Exit → Act → World → Prop}
theorem CW_cov {x : Code} {ρ' : Env} (h : Cov ρ ρ') (k : CW P K Q x ρ' m) : CW P K Q x ρ m := ⟨fun a w hf hm => k.run a w (hf.cov h) hm⟩
/-- a part of a function's code, by its path -/
def cP : List Nat → Code → Code
  | 0 :: r, .seq x _ => cP r x
  | _ :: r, .seq _ y => cP r y
  | 0 :: r, .cond _ x _ => cP r x
  | _ :: r, .cond _ _ y => cP r y
  | _ :: r, .loop x => cP r x
  | _ :: r, .block _ x => cP r x
  | _, c => c
end
/-- what a function that turns nothing tells: a value, and what may be read then -/
def Tells {X : Type} (V : X → Value) (Φ : X → Rd → Prop) (G : Rd) (w : World) (e : Ending) (w' : World) : Prop := ∃ (x : X) (G' : Rd), Φ x G' ∧ e = .returned (V x) ∧ Rd.grow w G G' ∧ Holds w [] [ro w [] G'] w'
section
variable {P : Program} {K : Cx} {ρ ρp : Env} {m m0 r : List HP} {Q : Exit → Act → World → Prop} {ty : TypeId} {pos : String} {aft : Array Edge} {g : Option (Nat × Bool)} {ops : Array Oper} {d : Nat} {xs : List Operand} {ats : Array TypeId} {vs : List Value} {G : Rd}
theorem own_nil {fp : List Nat} {w : World} (h : Own [] fp w) : fp = [] := h
theorem WL_callT {rest : List Oper} {f : FuncId} [S : FnT P f] (e : Ent m (ro K.w0 K.F G :: r)) (hx : opvs ρ xs = some vs) (hg : guardB ops g ρ = some true) (hn : (guardN K.N ops g && Nat.blt d K.N) = true) {X : Type} {V : X → Value} {Φ : X → Rd → Prop}
    (hc : ∀ w, Rd.sub G [] w → Calls P f vs.toArray w (Tells V Φ G w))
    (k : ∀ x G', Φ x G' → Rd.grow K.w0 G G' → WL P K ops Q rest ((d, V x) :: ρ) (ro K.w0 K.F G' :: r)) : WL P K ops Q (⟨some d, .call ⟨.value (.func f), xs.toArray, ats⟩, ty, pos, aft, g⟩ :: rest) ρ m := by
  refine WL_callG (m1 := []) (r := r) (X := X × Rd) (V := fun x => V x.1) (Gx := fun x => x.2) (M := fun _ => []) (I := fun x => Φ x.1 x.2) e hx hg hn (fun W fp _ hO hS _ => ?_) (fun x hx' hgr => k x.1 x.2 hx' hgr)
  obtain rfl := own_nil hO
  exact (hc W hS).mono fun e w' ⟨x, G', h1, h2, h3, h4⟩ => ⟨(x, G'), h1, h2, h3, h4⟩
theorem WP_callT {L : Act → Cl → Prop} {rest : List Nat} {k : Nat} {listed : Array Bool} {f : FuncId} [S : FnT P f] (hk : ops[k]? = some ⟨some d, .call ⟨.value (.func f), xs.toArray, ats⟩, ty, pos, aft, g⟩) (e : Ent m (ro K.w0 K.F G :: r)) (hso : soleB .any ops listed k = true) (hx : opvs ρ xs = some vs) (hg : guardB ops g ρ = some true) (hn : (guardN K.N ops g && Nat.blt d K.N) = true) {X : Type} {V : X → Value} {Φ : X → Rd → Prop}
    (hc : ∀ w, Rd.sub G [] w → Calls P f vs.toArray w (Tells V Φ G w)) (hr : ∀ G', Rd.grow K.w0 G G' → ∃ pm, Ent (ro K.w0 K.F G' :: r) (pm ++ m0))
    (k' : ∀ x G', Φ x G' → Rd.grow K.w0 G G' → WP P K (PanE K ρp Q) ops L m0 rest (listed.setIfInBounds k true) ((d, V x) :: ρ) (ro K.w0 K.F G' :: r)) : WP P K (PanE K ρp Q) ops L m0 (k :: rest) listed ρ m := by
  refine WP_callG (m1 := []) (r := r) (X := { x : X × Rd // Rd.grow K.w0 G x.2 }) (Y := Empty) (V := fun x => V x.1.1) (Gx := fun x => x.1.2) (M := fun _ => []) (I := fun x => Φ x.1.1 x.1.2) (C := fun y => y.elim) (Gy := fun y => y.elim) (MP := fun y => y.elim) (J := fun _ => False) hk e hso hx hg hn (fun W fp hW hO hS _ => ?_) (fun x _ => hr x.1.2 x.2) (fun x hx' hgr => k' x.1.1 x.1.2 hx' hgr) (fun _ h => h.elim)
  obtain rfl := own_nil hO
  exact (hc W hS).mono fun e w' ⟨x, G', h1, h2, h3, h4⟩ => .inl ⟨⟨(x, G'), Rd.grow_up hW.size h3⟩, h1, h2, h3, h4⟩
end
section
variable {P : Program} {K : Cx} {ρ : Env} {m m0 r : List HP} {ty : TypeId} {pos : String} {aft : Array Edge} {ops : Array Oper} {d i : Nat} {G : Rd} {next : Env → List HP → Prop}
theorem Stp_op {op : Op} {v : Value} (ho : ops[i]? = some ⟨some d, op, ty, pos, aft, none⟩) (hd : Nat.blt d K.N = true) (h : Yi P K ρ [] ⟨some d, op, ty, pos, aft, none⟩ v) (k : next ((d, v) :: ρ) m) : Stp P K ops m0 i ρ m next :=
  ⟨d, op, ty, pos, aft, ho, blt_lt hd, Unit, fun _ => v, fun _ => m, fun r a w _ hf hm => by
    rw [h.run a w hf (hm.ent Ent.nil)]
    exact ⟨(), rfl, hm⟩, fun _ => k⟩
end
/-- a slice of one's own may only be read from here on -/
theorem WL_row {α : Type} {enc : α → List Value} {sz : Nat} (hs : ∀ x, (enc x).length = sz) (h0 : 0 < sz) {P : Program} {K : Cx} {ρ : Env} {m r : List HP} {Q : Exit → Act → World → Prop} {ops : Array Oper} {rest : List Oper} {G : Rd} {e : TypeId} {n c : Nat} {p : Option Addr} {xs : List α} (hF : K.F = []) (he : Ent m (ro K.w0 K.F G :: sl e sz p n c (xs.flatMap enc) :: r))
    (k : ∀ G', Rd.grow K.w0 G G' → Row enc sz G' p c xs → WL P K ops Q rest ρ (ro K.w0 K.F G' :: r)) : WL P K ops Q rest ρ m := ⟨fun a w hf hm => by
  obtain ⟨G', g1, g2, g3⟩ := Holds.toRo hs h0 (hm.ent he) (fun _ _ => by rw [hF]; simp)
  exact (k G' g1 g2).run a w hf g3⟩
/-- a slice of one's own is told as a row -/
theorem Tells.sl {α : Type} {enc : α → List Value} {sz : Nat} (hs : ∀ x, (enc x).length = sz) (h0 : 0 < sz) {X : Type} {V : X → Value} {Φ : X → Rd → Prop} {G G0 : Rd} {w w' : World} {e : TypeId} {n c : Nat} {p : Option Addr} {xs : List α} {r : List HP} (x : X) (hg : Rd.grow w G0 G) (hh : Holds w [] (ro w [] G :: Go.Proofs.YtllgkdkjcbohcaaGreatDoor.sl e sz p n c (xs.flatMap enc) :: r) w') (hp : ∀ G', Rd.grow w G0 G' → Row enc sz G' p c xs → Φ x G') : Tells V Φ G0 w (.returned (V x)) w' := by
  obtain ⟨G', g1, g2, g3⟩ := Holds.toRo hs h0 hh (fun _ _ => by simp)
  exact ⟨x, G', hp G' (Rd.grow_tr hg g1) g2, rfl, Rd.grow_tr hg g1, g3.ent (Ent.cons .here Ent.nil)⟩
theorem Tells.val {X : Type} {V : X → Value} {Φ : X → Rd → Prop} {G G0 : Rd} {w w' : World} {r : List HP} (x : X) (hg : Rd.grow w G0 G) (hh : Holds w [] (ro w [] G :: r) w') (hp : Φ x G) : Tells V Φ G0 w (.returned (V x)) w' := ⟨x, G, hp, rfl, hg, hh.ent (Ent.cons .here Ent.nil)⟩
end Go.Proofs.YtllgkdkjcbohcaaGreatDoor
namespace Go.Proofs.YtllgkdkjcbohcaaGreatDoor
open Go.RowKit
theorem Own.blk {w : World} {b : Nat} {T : TypeId} {cs : Array Value} (h : w.heap[b]? = some (.cells cs T (0, 0))) : Own [Go.Proofs.YtllgkdkjcbohcaaGreatDoor.blk b T cs] [b] w := ⟨[b], [], rfl, ⟨rfl, h⟩, rfl, by simp⟩
/-- a block that was only read -/
theorem Holds.same {w w' : World} {b : Nat} {T : TypeId} {cs : Array Value} {m r : List HP} (hh : Holds w [b] m w') (hp : Pick m (Go.Proofs.YtllgkdkjcbohcaaGreatDoor.blk b T cs) r) (h : w.heap[b]? = some (.cells cs T (0, 0))) : Below w.heap.size w w' := by
  have h1 := hh.blk hp
  refine ⟨hh.keep.os, hh.keep.tape, hh.keep.output, hh.keep.size, fun k hk => ?_⟩
  by_cases e : k = b
  · subst e; rw [h1, h]
  · exact hh.keep.block k hk (by simpa using e)
section ops
variable {P : Program} {K : Cx} {ρ : Env} {m m' r : List HP} {dst : Option Nat} {ty t t' : TypeId} {pos : String} {aft : Array Edge} {g : Option (Nat × Bool)} {v : Value} {x y z : Operand} {ops : Array Oper} {Q : Exit → Act → World → Prop} {rest : List Oper} {d : Nat} {G : Rd}
/-- .. that panics -/
theorem WL_callUP {f : FuncId} [S : FnT P f] {xs : List Operand} {ats : Array TypeId} {vs : List Value} {m1 : List HP} {C : List PanicEntry} (e : Ent m (ro K.w0 K.F G :: (m1 ++ r))) (hx : opvs ρ xs = some vs) (hg : guardB ops g ρ = some true)
    (hn : (guardN K.N ops g && Nat.blt d K.N) = true)
    (hc : ∀ w fp, Own m1 fp w → Rd.sub G fp w → Calls P f vs.toArray w fun e w' => e = .panicked C ∧ Keep w fp w')
    (k : EX K Q (.panic C) ρ (ro K.w0 K.F G :: r)) : WL P K ops Q (⟨some d, .call ⟨.value (.func f), xs.toArray, ats⟩, ty, pos, aft, g⟩ :: rest) ρ m :=
  WL_callGP (X := Empty) (Y := Unit) (V := fun x => x.elim) (Gx := fun x => x.elim) (M := fun x => x.elim) (I := fun x => x.elim) (C := fun _ => C) (Gy := fun _ => G) (MP := fun _ => []) (J := fun _ => True) e hx hg hn
    (fun w fp _ h1 h2 _ => (hc w fp h1 h2).mono fun _ w' ⟨he, hk⟩ => .inr ⟨(), trivial, he, Rd.grow_refl _ _, ⟨hk, [], ⟨[], [], rfl, ⟨by simp, fun a v ea => .inr ⟨cell_lt (h2 a v ea).1, (h2 a v ea).2, (h2 a v ea).1⟩⟩, rfl, by simp⟩, by simp⟩⟩) (fun x => x.elim) (fun _ _ _ => k)
theorem WL_callUP1 {f : FuncId} [S : FnT P f] {xs : List Operand} {ats : Array TypeId} {vs : List Value} {h : HP} {C : List PanicEntry} (hp : Pick m (ro K.w0 K.F G) m') (hp' : Pick m' h r) (hx : opvs ρ xs = some vs) (hg : guardB ops g ρ = some true)
    (hn : (guardN K.N ops g && Nat.blt d K.N) = true)
    (hc : ∀ w fp, Own [h] fp w → Rd.sub G fp w → Calls P f vs.toArray w fun e w' => e = .panicked C ∧ Keep w fp w')
    (k : EX K Q (.panic C) ρ (ro K.w0 K.F G :: r)) : WL P K ops Q (⟨some d, .call ⟨.value (.func f), xs.toArray, ats⟩, ty, pos, aft, g⟩ :: rest) ρ m :=
  WL_callUP (m1 := [h]) (Ent.cons hp (Ent.cons hp' Ent.refl)) hx hg hn hc k
/-! ## deferred calls -/
theorem y_makeFunc {f : Fn} {cs : List Operand} {vs : List Value} (hx : opvs ρ cs = some vs) : Yi P K ρ m ⟨dst, .makeFunc f #[] cs.toArray, ty, pos, aft, g⟩ (.func f #[] vs.toArray) := ⟨fun a w hf _ => by
  have h1 := opvs_eval hf hx
  simp only [execOp, List.map_toArray, h1]
  rfl⟩
theorem WL_defer {f : Fn} {cap : Array Value} (hy : opv ρ y = some (.func f #[] cap)) (hg : guardB ops g ρ = some true) (hn : guardN K.N ops g = true)
    (k : WL P { K with D := { target := .fn f cap, args := #[] } :: K.D } ops Q rest ρ m) : WL P K ops Q (⟨none, .defer ⟨.value y, #[], #[]⟩, ty, pos, aft, g⟩ :: rest) ρ m := by
  refine ⟨fun a w hf hm => ?_⟩
  unfold wpList
  rw [if_pos (guard_wanted hf hg (guardN_spec hn))]
  refine .inl ?_
  have h : (execOp a.eval ⟨none, .defer ⟨.value y, #[], #[]⟩, ty, pos, aft, g⟩).run P w = .ok (.defer { target := .fn f cap, args := #[] }) w := by
    simp only [execOp, resolve, hf.eval hy]
    simp [Deferred.ofValue, go_sem]
  unfold Oper.wp
  rw [h, Oper.upon_defer]
  exact k.run _ _ ⟨hf.size, by rw [← hf.defs]; rfl, hf.get⟩ hm
def QBodyD (P : Program) (fn : Func) (R : Ending → World → Prop) : Exit → Act → World → Prop := bodyPostD P fn R
/-- into a function that defers -/
theorem enterD {f : FuncId} {fn : Func} {c : Code} {args : List Value} {w : World} {F : List Nat} {R : Ending → World → Prop} {N : Nat} (hf : P.funcs[f]? = some fn) (hb : fn.body = some c) (hN : fn.ntmps = N) (hl : args.length ≤ N) (hm : Own m F w)
    (h : CW P ⟨N, [], w, F⟩ (QBodyD P fn R) c (argEnv 0 args) m) : Calls P f args.toArray w R := by
  refine calls_of_wp_defers hf hb (h.run _ _ ⟨by simp; omega, rfl, fun n v hv => ?_⟩ (Holds.start hm))
  obtain ⟨_, h2⟩ := find_argEnv _ _ _ _ hv
  have hlt : n < args.length := by simpa using (List.getElem?_eq_some_iff.1 h2).1
  rw [Array.getD_eq_getD_getElem?, Array.getElem?_append_left (by simpa using hlt)]
  simp at h2
  simp [h2]
/-- nothing is deferred yet: the result is told -/
theorem EX_retD0 {fn : Func} {R : Ending → World → Prop} (hD : K.D = []) (h : ∀ a w, Fits K.N K.D a ρ → Holds K.w0 K.F m w → ∃ v, (results fn a.tmps).run P w = .ok v w ∧ R (.returned v) w) : EX K (QBodyD P fn R) .ret ρ m := ⟨fun a w hf hm => by
  show Leaves P fn a.tmps R a.defers .returning w
  rw [hf.defs, hD]
  exact h a w hf hm⟩
/-- one deferred call, behind a return -/
theorem EX_retD1 {fn : Func} {R : Ending → World → Prop} {f : FuncId} [S : FnT P f] {cap : Array Value} (hD : K.D = [{ target := .fn (.func f) cap, args := #[] }])
    (h : ∀ a w, Fits K.N K.D a ρ → Holds K.w0 K.F m w → CallsD P f cap .returning w fun e u w' => ∃ x, e = .returned x ∧ u = .returning ∧ ∃ v, (results fn a.tmps).run P w' = .ok v w' ∧ R (.returned v) w') : EX K (QBodyD P fn R) .ret ρ m := ⟨fun a w hf hm => by
  show Leaves P fn a.tmps R a.defers .returning w
  rw [hf.defs, hD]
  obtain ⟨fn', c, hfn, hb, hnm⟩ := S.ok
  refine leaves_cons (f := f) (args := cap) (by simp) (by simp [invoke, callFunc, hfn, hb, hnm, go_sem]) ((h a w hf hm).mono ?_)
  rintro e u w' ⟨x, rfl, rfl, v, h1, h2⟩
  exact ⟨v, h1, h2⟩⟩
/-- one deferred call, behind a panic: it recovers -/
theorem EX_panD1 {fn : Func} {R : Ending → World → Prop} {f : FuncId} [S : FnT P f] {cap : Array Value} {pv : Value} (hD : K.D = [{ target := .fn (.func f) cap, args := #[] }])
    (h : ∀ a w, Fits K.N K.D a ρ → Holds K.w0 K.F m w → CallsD P f cap (.panicking [{ v := pv, recovered := false }]) w fun e u w' => ∃ x, e = .returned x ∧ u = .panicking [{ v := pv, recovered := true }] ∧ ∃ v, (results fn a.tmps).run P w' = .ok v w' ∧ R (.returned v) w') : EX K (QBodyD P fn R) (.panic [{ v := pv, recovered := false }]) ρ m := ⟨fun a w hf hm => by
  show Leaves P fn a.tmps R a.defers (.panicking [{ v := pv, recovered := false }]) w
  rw [hf.defs, hD]
  obtain ⟨fn', c, hfn, hb, hnm⟩ := S.ok
  refine leaves_cons (f := f) (args := cap) (by simp) (by simp [invoke, callFunc, hfn, hb, hnm, go_sem]) ((h a w hf hm).mono ?_)
  rintro e u w' ⟨x, rfl, rfl, v, h1, h2⟩
  exact ⟨v, h1, h2⟩⟩
end ops
end Go.Proofs.YtllgkdkjcbohcaaGreatDoor
