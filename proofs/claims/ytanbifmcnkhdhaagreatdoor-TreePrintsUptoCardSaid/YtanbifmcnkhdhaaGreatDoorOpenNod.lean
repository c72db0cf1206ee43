/-
  Arguments as they come in: nodes.
  How expressions lie in memory as package tree has them.
-/
import Derived.Test.YtanbifmcnkhdhaaGreatDoorOpenTok
import Derived.Test.YtanbifmcnkhdhaaGreatDoorTreeEx
namespace Go.Proofs.YtanbifmcnkhdhaaGreatDoor
open Go.RowKit

/-- a node as it lies in memory -/
structure NodM where
  op : Int
  aop : Int
  af : Int
  ag : Int
  n : Int
  nums : SlV Int
  text : List UInt8
instance : Inhabited NodM := ⟨⟨0, 0, 0, 0, 0, ⟨none, 0, []⟩, []⟩⟩
def NodM.nod (i : NodM) : Nod := ⟨i.op, i.aop, i.af, i.ag, i.n, i.nums.xs, i.text⟩
def nodE (i : NodM) : List Value := [.int .i64 i.op, .int .i64 i.aop, .int .i64 i.af, .int .i64 i.ag, .int .i64 i.n, .slice i.nums.p i.nums.xs.length i.nums.c, .string ⟨i.text.toArray⟩]
structure ActN where
  op : Int
  f : Int
  g : Int
def actNE (a : ActN) : List Value := [.int .i64 a.op, .int .i64 a.f, .int .i64 a.g]
set_option maxRecDepth 100000 in
theorem oActN : Opn Tryz.prog 32 ActN actNE (fun _ _ a => I64 a.op ∧ I64 a.f ∧ I64 a.g) := ⟨fun {H en w base spare held fuel cs x B} h hB => by
  obtain ⟨hl, n, hf⟩ := trod_fields Tryz.underlying32 h hB
  obtain ⟨a0, e0, s0⟩ := fld_open oInt hf 0 0 1 rfl (by kernel_rfl)
  obtain ⟨a1, e1, s1⟩ := fld_open oFn hf 1 1 1 rfl (by kernel_rfl)
  obtain ⟨a2, e2, s2⟩ := fld_open oFn hf 2 2 1 rfl (by kernel_rfl)
  have hc : Tryz.prog.cellsOf 32 = 3 := by kernel_rfl
  rw [hc] at hl
  refine ⟨⟨a0, a1, a2⟩, ?_, s0, s1, s2⟩
  match cs, hl with
  | [c0, c1, c2], _ =>
    simp [encI] at e0 e1 e2
    simp [actNE, e0, e1, e2]⟩
theorem oIntsN : Opn Tryz.prog 33 (SlV Int) SlV.enc (SlS encI 1 (fun _ _ i => I64 i)) := opn_slice oInt Tryz.underlying33 (by kernel_rfl)
/-- what the memory behind a node holds -/
def NodS (w : World) (B : Nat) (i : NodM) : Prop := (I64 i.op ∧ I64 i.aop ∧ I64 i.af ∧ I64 i.ag ∧ I64 i.n) ∧ SlS encI 1 (fun _ _ i => I64 i) w B i.nums ∧ i.text.length ≤ B
set_option maxRecDepth 100000 in
theorem oNod : Opn Tryz.prog 35 NodM nodE NodS := ⟨fun {H en w base spare held fuel cs x B} h hB => by
  obtain ⟨hl, n, hf⟩ := trod_fields Tryz.underlying35 h hB
  obtain ⟨a0, e0, s0⟩ := fld_open oInt hf 0 0 1 rfl (by kernel_rfl)
  obtain ⟨a1, e1, s1⟩ := fld_open oActN hf 1 1 3 rfl (by kernel_rfl)
  obtain ⟨a2, e2, s2⟩ := fld_open oInt hf 2 4 1 rfl (by kernel_rfl)
  obtain ⟨a4, e4, s4⟩ := fld_open oIntsN hf 3 5 1 rfl (by kernel_rfl)
  obtain ⟨a5, e5, s5⟩ := fld_open oStr hf 4 6 1 rfl (by kernel_rfl)
  have hc : Tryz.prog.cellsOf 35 = 7 := by kernel_rfl
  rw [hc] at hl
  refine ⟨⟨a0, a1.op, a1.f, a1.g, a2, a4, a5⟩, ?_, ⟨s0, s1.1, s1.2.1, s1.2.2, s2⟩, s4, s5⟩
  match cs, hl with
  | [c0, c1, c2, c3, c4, c5, c6], _ =>
    simp [encI] at e0 e2
    simp [actNE] at e1
    simp [SlV.enc, SlV.val] at e4
    simp [encS] at e5
    simp [nodE, e0, e1, e2, e4, e5]⟩
theorem oNods : Opn Tryz.prog 23 (SlV NodM) SlV.enc (SlS nodE 7 NodS) := opn_slice oNod Tryz.underlying23 (by kernel_rfl)
/-- what nodes hold, as a reader knows it -/
structure NodG (G : Rd) (i : NodM) : Prop where
  text : i.text.length ≤ 4294967280
  nums : Row encI 1 G i.nums.p i.nums.c i.nums.xs
  numsL : i.nums.xs.length ≤ 4294967280
  numsR : ∀ n ∈ i.nums.xs, I64 n
  op : I64 i.op
  n : I64 i.n
  aop : I64 i.aop
  af : I64 i.af
  ag : I64 i.ag
theorem NodG.mono {G G' : Rd} {b : NodM} (h : NodG G b) (hl : Rd.le G G') : NodG G' b := ⟨h.text, h.nums.mono hl, h.numsL, h.numsR, h.op, h.n, h.aop, h.af, h.ag⟩
theorem nodG_of {w : World} {B : Nat} {b : NodM} (h : NodS w B b) (hB : B ≤ 1048576) : NodG w.cell? b := ⟨by have := h.2.2; omega, h.2.1.row, by have := h.2.1.len; omega, h.2.1.each, h.1.1, h.1.2.2.2.2, h.1.2.1, h.1.2.2.1, h.1.2.2.2.1⟩
end Go.Proofs.YtanbifmcnkhdhaaGreatDoor

namespace Go.Proofs.YtanbifmcnkhdhaaGreatDoor
open Go.RowKit

def encV (v : Value) : List Value := [v]
mutual
/-- an interface value that has an expression -/
def Ex.rep (G : Rd) : Ex → Value → Prop
  | .leaf n, v =>
    (n.op = 1 ∧ ∃ p c, v = .iface 137 (.agg #[.slice p n.nums.length c]) ∧ Row encI 1 G p c n.nums) ∨
    (n.op = 2 ∧ v = .iface 138 (.agg #[.string ⟨n.text.toArray⟩])) ∨
    (n.op = 3 ∧ v = .iface 116 (.agg #[.string ⟨n.text.toArray⟩])) ∨
    ((n.op = 4 ∨ n.op = 5) ∧ v = .iface 140 (.agg #[.int .i64 n.op]))
  | .one n b r, v => ∃ p c vs u, v = .iface 146 (.agg #[.int .i64 n.aop, .int .i64 n.af, .int .i64 n.ag, .int .i64 n.n, .slice p vs.length c, u]) ∧ Row encV 1 G p c vs ∧ b.rep G vs ∧ r.rep G u
  | .two n l b r, v => ∃ p c vs t u, v = .iface 151 (.agg #[t, .int .i64 n.aop, .int .i64 n.af, .int .i64 n.ag, .int .i64 n.n, .slice p vs.length c, u]) ∧ Row encV 1 G p c vs ∧ l.rep G t ∧ b.rep G vs ∧ r.rep G u
  | .pick _ o b, v => ∃ p c vs t, v = .iface 153 (.agg #[t, .slice p vs.length c]) ∧ Row encV 1 G p c vs ∧ o.rep G t ∧ b.rep G vs
def Exs.rep (G : Rd) : Exs → List Value → Prop
  | .nil, vs => vs = []
  | .cons e r, vs => ∃ v t, vs = v :: t ∧ e.rep G v ∧ r.rep G t
end
mutual
theorem Ex.rep_mono {G G' : Rd} (hl : Rd.le G G') : ∀ {e : Ex} {v : Value}, e.rep G v → e.rep G' v
  | .leaf n, v, h => by
    rcases h with ⟨h1, p, c, h2, h3⟩ | h | h | h
    · exact .inl ⟨h1, p, c, h2, h3.mono hl⟩
    · exact .inr (.inl h)
    · exact .inr (.inr (.inl h))
    · exact .inr (.inr (.inr h))
  | .one n b r, v, h => by
    obtain ⟨p, c, vs, u, h1, h2, h3, h4⟩ := h
    exact ⟨p, c, vs, u, h1, h2.mono hl, Exs.rep_mono hl h3, Ex.rep_mono hl h4⟩
  | .two n l b r, v, h => by
    obtain ⟨p, c, vs, t, u, h1, h2, h5, h3, h4⟩ := h
    exact ⟨p, c, vs, t, u, h1, h2.mono hl, Ex.rep_mono hl h5, Exs.rep_mono hl h3, Ex.rep_mono hl h4⟩
  | .pick n o b, v, h => by
    obtain ⟨p, c, vs, t, h1, h2, h5, h3⟩ := h
    exact ⟨p, c, vs, t, h1, h2.mono hl, Ex.rep_mono hl h5, Exs.rep_mono hl h3⟩
theorem Exs.rep_mono {G G' : Rd} (hl : Rd.le G G') : ∀ {b : Exs} {vs : List Value}, b.rep G vs → b.rep G' vs
  | .nil, _, h => h
  | .cons e r, vs, h => by
    obtain ⟨v, t, h1, h2, h3⟩ := h
    exact ⟨v, t, h1, Ex.rep_mono hl h2, Exs.rep_mono hl h3⟩
end
theorem Exs.rep_app {G : Rd} : ∀ {b c : Exs} {vs us : List Value}, b.rep G vs → c.rep G us → (b.app c).rep G (vs ++ us)
  | .nil, c, vs, us, h, k => by
    have : vs = [] := h
    subst this; exact k
  | .cons e r, c, vs, us, h, k => by
    obtain ⟨v, t, rfl, h2, h3⟩ := h
    exact ⟨v, t ++ us, rfl, h2, Exs.rep_app h3 k⟩
theorem Exs.rep_len {G : Rd} : ∀ {b : Exs} {vs : List Value}, b.rep G vs → vs.length = b.len
  | .nil, vs, h => by have : vs = [] := h; subst this; rfl
  | .cons e r, vs, h => by
    obtain ⟨v, t, rfl, h2, h3⟩ := h
    simp [Exs.len, Exs.rep_len h3]
theorem Exs.rep_one {G : Rd} {e : Ex} {v : Value} (h : e.rep G v) : (Exs.cons e .nil).rep G [v] := ⟨v, [], rfl, h, rfl⟩
def wrongV (k : Int) : Value := .iface 60 (.int .i64 k)
def wrongP (k : Int) : List PanicEntry := [{ v := wrongV k, recovered := false }]
theorem Keep.tr {w0 w w' : World} {F fp : List Nat} (h : Keep w0 F w) (k : Keep w fp w') (hF : ∀ i ∈ fp, i < w0.heap.size → i ∈ F) : Keep w0 F w' :=
  ⟨k.os.trans h.os, k.tape.trans h.tape, k.output.trans h.output, Nat.le_trans h.size k.size, fun i hi hn => (k.block i (Nat.lt_of_lt_of_le hi h.size) (fun hm => hn (hF i hm hi))).trans (h.block i hi hn)⟩
theorem Ent.roLe {m r m' : List HP} {w0 : World} {F : List Nat} {G G' : Rd} (hl : Rd.le G G') (hp : Pick m (ro w0 F G') r) (k : Ent r m') : Ent m (ro w0 F G :: m') := fun fp w ho => by
  obtain ⟨f1, f2, he, k1, k2, kd⟩ := hp.own ho
  obtain ⟨f3, h3, hs⟩ := k f2 w k2
  refine ⟨f1 ++ f3, ⟨f1, f3, rfl, ⟨k1.1, fun a v e => k1.2 a v (hl a v e)⟩, h3, fun i hi h => kd i hi (hs i h)⟩, fun i hi => ?_⟩
  rcases List.mem_append.1 hi with hi | hi
  · exact (he i).2 (.inl hi)
  · exact (he i).2 (.inr (hs i hi))
theorem flat_encV (vs : List Value) : vs.flatMap encV = vs := by induction vs with
  | nil => rfl
  | cons v vs ih => rw [List.flatMap_cons, ih]; rfl
theorem Ex.rep_iface {G : Rd} {e : Ex} {v : Value} (h : e.rep G v) : ∃ T u, v = .iface T u := by
  cases e with
  | leaf n => rcases h with ⟨_, p, c, h, _⟩ | ⟨_, h⟩ | ⟨_, h⟩ | ⟨_, h⟩ <;> exact ⟨_, _, h⟩
  | one n b r => obtain ⟨p, c, vs, u, h, _⟩ := h; exact ⟨_, _, h⟩
  | two n l b r => obtain ⟨p, c, vs, t, u, h, _⟩ := h; exact ⟨_, _, h⟩
  | pick n o b => obtain ⟨p, c, vs, t, h, _⟩ := h; exact ⟨_, _, h⟩
end Go.Proofs.YtanbifmcnkhdhaaGreatDoor
