/-
  Arguments as they come in: nodes.
  How expressions lie in memory as package tree has them.
  The logic of walks: functions that turn nothing: what they leave may be read from there on. Of no program.
  Arguments as they come in: instructions.
-/
import Derived.Test.YtngeooflfkpikaaGreatDoorYSoundPlain
import Derived.Test.YtngeooflfkpikaaGreatDoorYTreeEx
import Derived.Test.YtngeooflfkpikaaGreatDoorYGo
import Derived.Test.YtngeooflfkpikaaGreatDoorYPar
import Derived.Test.YtngeooflfkpikaaGreatDoorYPerm
import Derived.Test.YtngeooflfkpikaaGreatDoorYOpen
namespace Go.Proofs.YtngeooflfkpikaaGreatDoor
open Go.RowKit
/-- a node as it lies in memory -/
structure NodM where
  op : Int
  aop : Int
  af : Int
  ag : Int
  n : Int
  nums : SlV Int
  text : List UInt8
instance : Inhabited NodM := ⟨⟨0, 0, 0, 0, 0, ⟨none, 0, []⟩, []⟩⟩
def NodM.nod (i : NodM) : Nod := ⟨i.op, i.aop, i.af, i.ag, i.n, i.nums.xs, i.text⟩
def nodE (i : NodM) : List Value := [.int .i64 i.op, .int .i64 i.aop, .int .i64 i.af, .int .i64 i.ag, .int .i64 i.n, .slice i.nums.p i.nums.xs.length i.nums.c, .string ⟨i.text.toArray⟩]
structure ActN where
  op : Int
  f : Int
  g : Int
def actNE (a : ActN) : List Value := [.int .i64 a.op, .int .i64 a.f, .int .i64 a.g]
set_option maxRecDepth 100000 in
theorem oActN : Opn Tryz.prog 41 ActN actNE (fun _ _ a => I64 a.op ∧ I64 a.f ∧ I64 a.g) := ⟨fun {H en w base spare held fuel cs x B} h hB => by
  obtain ⟨hl, n, hf⟩ := trod_fields Tryz.underlying41 h hB
  obtain ⟨a0, e0, s0⟩ := fld_open oInt hf 0 0 1 rfl (by kernel_rfl)
  obtain ⟨a1, e1, s1⟩ := fld_open oFn hf 1 1 1 rfl (by kernel_rfl)
  obtain ⟨a2, e2, s2⟩ := fld_open oFn hf 2 2 1 rfl (by kernel_rfl)
  have hc : Tryz.prog.cellsOf 41 = 3 := by kernel_rfl
  rw [hc] at hl
  refine ⟨⟨a0, a1, a2⟩, ?_, s0, s1, s2⟩
  match cs, hl with
  | [c0, c1, c2], _ =>
    simp [encI] at e0 e1 e2
    simp [actNE, e0, e1, e2]⟩
theorem oIntsN : Opn Tryz.prog 42 (SlV Int) SlV.enc (SlS encI 1 (fun _ _ i => I64 i)) := opn_slice oInt Tryz.underlying42 (by kernel_rfl)
/-- what the memory behind a node holds -/
def NodS (w : World) (B : Nat) (i : NodM) : Prop := (I64 i.op ∧ I64 i.aop ∧ I64 i.af ∧ I64 i.ag ∧ I64 i.n) ∧ SlS encI 1 (fun _ _ i => I64 i) w B i.nums ∧ i.text.length ≤ B
set_option maxRecDepth 100000 in
theorem oNod : Opn Tryz.prog 44 NodM nodE NodS := ⟨fun {H en w base spare held fuel cs x B} h hB => by
  obtain ⟨hl, n, hf⟩ := trod_fields Tryz.underlying44 h hB
  obtain ⟨a0, e0, s0⟩ := fld_open oInt hf 0 0 1 rfl (by kernel_rfl)
  obtain ⟨a1, e1, s1⟩ := fld_open oActN hf 1 1 3 rfl (by kernel_rfl)
  obtain ⟨a2, e2, s2⟩ := fld_open oInt hf 2 4 1 rfl (by kernel_rfl)
  obtain ⟨a4, e4, s4⟩ := fld_open oIntsN hf 3 5 1 rfl (by kernel_rfl)
  obtain ⟨a5, e5, s5⟩ := fld_open oStr hf 4 6 1 rfl (by kernel_rfl)
  have hc : Tryz.prog.cellsOf 44 = 7 := by kernel_rfl
  rw [hc] at hl
  refine ⟨⟨a0, a1.op, a1.f, a1.g, a2, a4, a5⟩, ?_, ⟨s0, s1.1, s1.2.1, s1.2.2, s2⟩, s4, s5⟩
  match cs, hl with
  | [c0, c1, c2, c3, c4, c5, c6], _ =>
    simp [encI] at e0 e2
    simp [actNE] at e1
    simp [SlV.enc, SlV.val] at e4
    simp [encS] at e5
    simp [nodE, e0, e1, e2, e4, e5]⟩
theorem oNods : Opn Tryz.prog 22 (SlV NodM) SlV.enc (SlS nodE 7 NodS) := opn_slice oNod Tryz.underlying22 (by kernel_rfl)
/-- what nodes hold, as a reader knows it -/
structure NodG (G : Rd) (i : NodM) : Prop where
  text : i.text.length ≤ 4294967280
  nums : Row encI 1 G i.nums.p i.nums.c i.nums.xs
  numsL : i.nums.xs.length ≤ 4294967280
  numsR : ∀ n ∈ i.nums.xs, I64 n
  op : I64 i.op
  n : I64 i.n
  aop : I64 i.aop
  af : I64 i.af
  ag : I64 i.ag
theorem NodG.mono {G G' : Rd} {b : NodM} (h : NodG G b) (hl : Rd.le G G') : NodG G' b := ⟨h.text, h.nums.mono hl, h.numsL, h.numsR, h.op, h.n, h.aop, h.af, h.ag⟩
theorem nodG_of {w : World} {B : Nat} {b : NodM} (h : NodS w B b) (hB : B ≤ 1048576) : NodG w.cell? b := ⟨by have := h.2.2; omega, h.2.1.row, by have := h.2.1.len; omega, h.2.1.each, h.1.1, h.1.2.2.2.2, h.1.2.1, h.1.2.2.1, h.1.2.2.2.1⟩
end Go.Proofs.YtngeooflfkpikaaGreatDoor
namespace Go.Proofs.YtngeooflfkpikaaGreatDoor
open Go.RowKit
def encV (v : Value) : List Value := [v]
mutual
/-- an interface value that has an expression -/
def Ex.rep (G : Rd) : Ex → Value → Prop
  | .leaf n, v =>
    (n.op = 1 ∧ ∃ p c, v = .iface 161 (.agg #[.slice p n.nums.length c]) ∧ Row encI 1 G p c n.nums) ∨
    (n.op = 2 ∧ v = .iface 162 (.agg #[.string ⟨n.text.toArray⟩])) ∨
    (n.op = 3 ∧ v = .iface 146 (.agg #[.string ⟨n.text.toArray⟩])) ∨
    ((n.op = 4 ∨ n.op = 5) ∧ v = .iface 164 (.agg #[.int .i64 n.op]))
  | .one n b r, v => ∃ p c vs u, v = .iface 170 (.agg #[.int .i64 n.aop, .int .i64 n.af, .int .i64 n.ag, .int .i64 n.n, .slice p vs.length c, u]) ∧ Row encV 1 G p c vs ∧ b.rep G vs ∧ r.rep G u
  | .two n l b r, v => ∃ p c vs t u, v = .iface 175 (.agg #[t, .int .i64 n.aop, .int .i64 n.af, .int .i64 n.ag, .int .i64 n.n, .slice p vs.length c, u]) ∧ Row encV 1 G p c vs ∧ l.rep G t ∧ b.rep G vs ∧ r.rep G u
  | .pick _ o b, v => ∃ p c vs t, v = .iface 177 (.agg #[t, .slice p vs.length c]) ∧ Row encV 1 G p c vs ∧ o.rep G t ∧ b.rep G vs
def Exs.rep (G : Rd) : Exs → List Value → Prop
  | .nil, vs => vs = []
  | .cons e r, vs => ∃ v t, vs = v :: t ∧ e.rep G v ∧ r.rep G t
end
mutual
theorem Ex.rep_mono {G G' : Rd} (hl : Rd.le G G') : ∀ {e : Ex} {v : Value}, e.rep G v → e.rep G' v
  | .leaf n, v, h => by
    rcases h with ⟨h1, p, c, h2, h3⟩ | h | h | h
    · exact .inl ⟨h1, p, c, h2, h3.mono hl⟩
    · exact .inr (.inl h)
    · exact .inr (.inr (.inl h))
    · exact .inr (.inr (.inr h))
  | .one n b r, v, h => by
    obtain ⟨p, c, vs, u, h1, h2, h3, h4⟩ := h
    exact ⟨p, c, vs, u, h1, h2.mono hl, Exs.rep_mono hl h3, Ex.rep_mono hl h4⟩
  | .two n l b r, v, h => by
    obtain ⟨p, c, vs, t, u, h1, h2, h5, h3, h4⟩ := h
    exact ⟨p, c, vs, t, u, h1, h2.mono hl, Ex.rep_mono hl h5, Exs.rep_mono hl h3, Ex.rep_mono hl h4⟩
  | .pick n o b, v, h => by
    obtain ⟨p, c, vs, t, h1, h2, h5, h3⟩ := h
    exact ⟨p, c, vs, t, h1, h2.mono hl, Ex.rep_mono hl h5, Exs.rep_mono hl h3⟩
theorem Exs.rep_mono {G G' : Rd} (hl : Rd.le G G') : ∀ {b : Exs} {vs : List Value}, b.rep G vs → b.rep G' vs
  | .nil, _, h => h
  | .cons e r, vs, h => by
    obtain ⟨v, t, h1, h2, h3⟩ := h
    exact ⟨v, t, h1, Ex.rep_mono hl h2, Exs.rep_mono hl h3⟩
end
theorem Exs.rep_app {G : Rd} : ∀ {b c : Exs} {vs us : List Value}, b.rep G vs → c.rep G us → (b.app c).rep G (vs ++ us)
  | .nil, c, vs, us, h, k => by
    have : vs = [] := h
    subst this; exact k
  | .cons e r, c, vs, us, h, k => by
    obtain ⟨v, t, rfl, h2, h3⟩ := h
    exact ⟨v, t ++ us, rfl, h2, Exs.rep_app h3 k⟩
theorem Exs.rep_len {G : Rd} : ∀ {b : Exs} {vs : List Value}, b.rep G vs → vs.length = b.len
  | .nil, vs, h => by have : vs = [] := h; subst this; rfl
  | .cons e r, vs, h => by
    obtain ⟨v, t, rfl, h2, h3⟩ := h
    simp [Exs.len, Exs.rep_len h3]
theorem Exs.rep_one {G : Rd} {e : Ex} {v : Value} (h : e.rep G v) : (Exs.cons e .nil).rep G [v] := ⟨v, [], rfl, h, rfl⟩
def wrongV (k : Int) : Value := .iface 88 (.int .i64 k)
def wrongP (k : Int) : List PanicEntry := [{ v := wrongV k, recovered := false }]
theorem Keep.tr {w0 w w' : World} {F fp : List Nat} (h : Keep w0 F w) (k : Keep w fp w') (hF : ∀ i ∈ fp, i < w0.heap.size → i ∈ F) : Keep w0 F w' :=
  ⟨k.os.trans h.os, k.tape.trans h.tape, k.output.trans h.output, Nat.le_trans h.size k.size, fun i hi hn => (k.block i (Nat.lt_of_lt_of_le hi h.size) (fun hm => hn (hF i hm hi))).trans (h.block i hi hn)⟩
theorem Ent.roLe {m r m' : List HP} {w0 : World} {F : List Nat} {G G' : Rd} (hl : Rd.le G G') (hp : Pick m (ro w0 F G') r) (k : Ent r m') : Ent m (ro w0 F G :: m') := fun fp w ho => by
  obtain ⟨f1, f2, he, k1, k2, kd⟩ := hp.own ho
  obtain ⟨f3, h3, hs⟩ := k f2 w k2
  refine ⟨f1 ++ f3, ⟨f1, f3, rfl, ⟨k1.1, fun a v e => k1.2 a v (hl a v e)⟩, h3, fun i hi h => kd i hi (hs i h)⟩, fun i hi => ?_⟩
  rcases List.mem_append.1 hi with hi | hi
  · exact (he i).2 (.inl hi)
  · exact (he i).2 (.inr (hs i hi))
theorem flat_encV (vs : List Value) : vs.flatMap encV = vs := by induction vs with
  | nil => rfl
  | cons v vs ih => rw [List.flatMap_cons, ih]; rfl
theorem Ex.rep_iface {G : Rd} {e : Ex} {v : Value} (h : e.rep G v) : ∃ T u, v = .iface T u := by
  cases e with
  | leaf n => rcases h with ⟨_, p, c, h, _⟩ | ⟨_, h⟩ | ⟨_, h⟩ | ⟨_, h⟩ <;> exact ⟨_, _, h⟩
  | one n b r => obtain ⟨p, c, vs, u, h, _⟩ := h; exact ⟨_, _, h⟩
  | two n l b r => obtain ⟨p, c, vs, t, u, h, _⟩ := h; exact ⟨_, _, h⟩
  | pick n o b => obtain ⟨p, c, vs, t, h, _⟩ := h; exact ⟨_, _, h⟩
end Go.Proofs.YtngeooflfkpikaaGreatDoor
namespace Go.Proofs.YtngeooflfkpikaaGreatDoor
open Go.RowKit
section
variable {P : Program} {K : Cx} {ρ ρp : Env} {m m0 : List HP} {Q : Exit → Act → World → Prop}
theorem CW_cov {x : Code} {ρ' : Env} (h : Cov ρ ρ') (k : CW P K Q x ρ' m) : CW P K Q x ρ m := ⟨fun a w hf hm => k.run a w (hf.cov h) hm⟩
/-- a part of a function's code, by its path -/
def cP : List Nat → Code → Code
  | 0 :: r, .seq x _ => cP r x
  | _ :: r, .seq _ y => cP r y
  | 0 :: r, .cond _ x _ => cP r x
  | _ :: r, .cond _ _ y => cP r y
  | _ :: r, .loop x => cP r x
  | _ :: r, .block _ x => cP r x
  | _, c => c
end
/-- what a function that turns nothing tells: a value, and what may be read then -/
def Tells {X : Type} (V : X → Value) (Φ : X → Rd → Prop) (G : Rd) (w : World) (e : Ending) (w' : World) : Prop := ∃ (x : X) (G' : Rd), Φ x G' ∧ e = .returned (V x) ∧ Rd.grow w G G' ∧ Holds w [] [ro w [] G'] w'
section
variable {P : Program} {K : Cx} {ρ ρp : Env} {m m0 r : List HP} {Q : Exit → Act → World → Prop} {ty : TypeId} {pos : String} {aft : Array Edge} {g : Option (Nat × Bool)} {ops : Array Oper} {d : Nat} {xs : List Operand} {ats : Array TypeId} {vs : List Value} {G : Rd}
theorem own_nil {fp : List Nat} {w : World} (h : Own [] fp w) : fp = [] := h
theorem WL_callT {rest : List Oper} {f : FuncId} [S : FnT P f] (e : Ent m (ro K.w0 K.F G :: r)) (hx : opvs ρ xs = some vs) (hg : guardB ops g ρ = some true) (hn : (guardN K.N ops g && Nat.blt d K.N) = true) {X : Type} {V : X → Value} {Φ : X → Rd → Prop}
    (hc : ∀ w, Rd.sub G [] w → Calls P f vs.toArray w (Tells V Φ G w))
    (k : ∀ x G', Φ x G' → Rd.grow K.w0 G G' → WL P K ops Q rest ((d, V x) :: ρ) (ro K.w0 K.F G' :: r)) : WL P K ops Q (⟨some d, .call ⟨.value (.func f), xs.toArray, ats⟩, ty, pos, aft, g⟩ :: rest) ρ m := by
  refine WL_callG (m1 := []) (r := r) (X := X × Rd) (V := fun x => V x.1) (Gx := fun x => x.2) (M := fun _ => []) (I := fun x => Φ x.1 x.2) e hx hg hn (fun W fp _ hO hS _ => ?_) (fun x hx' hgr => k x.1 x.2 hx' hgr)
  obtain rfl := own_nil hO
  exact (hc W hS).mono fun e w' ⟨x, G', h1, h2, h3, h4⟩ => ⟨(x, G'), h1, h2, h3, h4⟩
theorem WP_callT {L : Act → Cl → Prop} {rest : List Nat} {k : Nat} {listed : Array Bool} {f : FuncId} [S : FnT P f] (hk : ops[k]? = some ⟨some d, .call ⟨.value (.func f), xs.toArray, ats⟩, ty, pos, aft, g⟩) (e : Ent m (ro K.w0 K.F G :: r)) (hso : soleB .any ops listed k = true) (hx : opvs ρ xs = some vs) (hg : guardB ops g ρ = some true) (hn : (guardN K.N ops g && Nat.blt d K.N) = true) {X : Type} {V : X → Value} {Φ : X → Rd → Prop}
    (hc : ∀ w, Rd.sub G [] w → Calls P f vs.toArray w (Tells V Φ G w)) (hr : ∀ G', Rd.grow K.w0 G G' → ∃ pm, Ent (ro K.w0 K.F G' :: r) (pm ++ m0))
    (k' : ∀ x G', Φ x G' → Rd.grow K.w0 G G' → WP P K (PanE K ρp Q) ops L m0 rest (listed.setIfInBounds k true) ((d, V x) :: ρ) (ro K.w0 K.F G' :: r)) : WP P K (PanE K ρp Q) ops L m0 (k :: rest) listed ρ m := by
  refine WP_callG (m1 := []) (r := r) (X := { x : X × Rd // Rd.grow K.w0 G x.2 }) (Y := Empty) (V := fun x => V x.1.1) (Gx := fun x => x.1.2) (M := fun _ => []) (I := fun x => Φ x.1.1 x.1.2) (C := fun y => y.elim) (Gy := fun y => y.elim) (MP := fun y => y.elim) (J := fun _ => False) hk e hso hx hg hn (fun W fp hW hO hS _ => ?_) (fun x _ => hr x.1.2 x.2) (fun x hx' hgr => k' x.1.1 x.1.2 hx' hgr) (fun _ h => h.elim)
  obtain rfl := own_nil hO
  exact (hc W hS).mono fun e w' ⟨x, G', h1, h2, h3, h4⟩ => .inl ⟨⟨(x, G'), Rd.grow_up hW.size h3⟩, h1, h2, h3, h4⟩
end
/-- a slice of one's own may only be read from here on -/
theorem WL_row {α : Type} {enc : α → List Value} {sz : Nat} (hs : ∀ x, (enc x).length = sz) (h0 : 0 < sz) {P : Program} {K : Cx} {ρ : Env} {m r : List HP} {Q : Exit → Act → World → Prop} {ops : Array Oper} {rest : List Oper} {G : Rd} {e : TypeId} {n c : Nat} {p : Option Addr} {xs : List α} (hF : K.F = []) (he : Ent m (ro K.w0 K.F G :: sl e sz p n c (xs.flatMap enc) :: r))
    (k : ∀ G', Rd.grow K.w0 G G' → Row enc sz G' p c xs → WL P K ops Q rest ρ (ro K.w0 K.F G' :: r)) : WL P K ops Q rest ρ m := ⟨fun a w hf hm => by
  obtain ⟨G', g1, g2, g3⟩ := Holds.toRo hs h0 (hm.ent he) (fun _ _ => by rw [hF]; simp)
  exact (k G' g1 g2).run a w hf g3⟩
/-- a slice of one's own is told as a row -/
theorem Tells.sl {α : Type} {enc : α → List Value} {sz : Nat} (hs : ∀ x, (enc x).length = sz) (h0 : 0 < sz) {X : Type} {V : X → Value} {Φ : X → Rd → Prop} {G G0 : Rd} {w w' : World} {e : TypeId} {n c : Nat} {p : Option Addr} {xs : List α} {r : List HP} (x : X) (hg : Rd.grow w G0 G) (hh : Holds w [] (ro w [] G :: Go.Proofs.YtngeooflfkpikaaGreatDoor.sl e sz p n c (xs.flatMap enc) :: r) w') (hp : ∀ G', Rd.grow w G0 G' → Row enc sz G' p c xs → Φ x G') : Tells V Φ G0 w (.returned (V x)) w' := by
  obtain ⟨G', g1, g2, g3⟩ := Holds.toRo hs h0 hh (fun _ _ => by simp)
  exact ⟨x, G', hp G' (Rd.grow_tr hg g1) g2, rfl, Rd.grow_tr hg g1, g3.ent (Ent.cons .here Ent.nil)⟩
theorem Tells.val {X : Type} {V : X → Value} {Φ : X → Rd → Prop} {G G0 : Rd} {w w' : World} {r : List HP} (x : X) (hg : Rd.grow w G0 G) (hh : Holds w [] (ro w [] G :: r) w') (hp : Φ x G) : Tells V Φ G0 w (.returned (V x)) w' := ⟨x, G, hp, rfl, hg, hh.ent (Ent.cons .here Ent.nil)⟩
end Go.Proofs.YtngeooflfkpikaaGreatDoor
namespace Go.Proofs.YtngeooflfkpikaaGreatDoor
open Go.RowKit
/-- an instruction as it lies in memory -/
structure InsM where
  op : Int
  aop : Int
  af : Int
  ag : Int
  n : Int
  dst : Int
  nums : SlV Int
  text : List UInt8
def InsM.ins (i : InsM) : Ins := ⟨i.op, i.aop, i.af, i.ag, i.n, i.dst, i.nums.xs, i.text⟩
def insE (i : InsM) : List Value := [.int .i64 i.op, .int .i64 i.aop, .int .i64 i.af, .int .i64 i.ag, .int .i64 i.n, .int .i64 i.dst, .slice i.nums.p i.nums.xs.length i.nums.c, .string ⟨i.text.toArray⟩]
/-- what an instruction holds, as a reader knows it -/
structure InsG (G : Rd) (i : InsM) : Prop where
  text : i.text.length ≤ 4294967280
  nums : Row encI 1 G i.nums.p i.nums.c i.nums.xs
  numsL : i.nums.xs.length ≤ 4294967280
theorem InsG.mono {G G' : Rd} {b : InsM} (h : InsG G b) (hl : Rd.le G G') : InsG G' b := ⟨h.text, h.nums.mono hl, h.numsL⟩
end Go.Proofs.YtngeooflfkpikaaGreatDoor
