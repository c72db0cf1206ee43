/-
  Arguments as they come in: words.
  Arguments as they come in: nodes.
  How expressions lie in memory as package tree has them.
-/
import Derived.Test.YtllgkdkjcbohcaaGreatDoorZOpenArr
import Derived.Test.YtllgkdkjcbohcaaGreatDoorZLex3
import Derived.Test.YtllgkdkjcbohcaaGreatDoorZTreeEx
import Derived.Test.YtllgkdkjcbohcaaGreatDoorZTokRow
namespace Go.Proofs.YtllgkdkjcbohcaaGreatDoor
open Go.RowKit
theorem oStr : Opn Tryz.prog 9 (List UInt8) encS (fun _ B l => l.length ≤ B) := opn_string Tryz.underlying9
end Go.Proofs.YtllgkdkjcbohcaaGreatDoor
namespace Go.Proofs.YtllgkdkjcbohcaaGreatDoor
open Go.RowKit
/-- a node as it lies in memory -/
structure NodM where
  op : Int
  aop : Int
  af : Int
  ag : Int
  n : Int
  nums : SlV Int
  text : List UInt8
def NodM.nod (i : NodM) : Nod := ⟨i.op, i.aop, i.af, i.ag, i.n, i.nums.xs, i.text⟩
def nodE (i : NodM) : List Value := [.int .i64 i.op, .int .i64 i.aop, .int .i64 i.af, .int .i64 i.ag, .int .i64 i.n, .slice i.nums.p i.nums.xs.length i.nums.c, .string ⟨i.text.toArray⟩]
/-- what nodes hold, as a reader knows it -/
structure NodG (G : Rd) (i : NodM) : Prop where
  text : i.text.length ≤ 4294967280
  nums : Row encI 1 G i.nums.p i.nums.c i.nums.xs
  numsL : i.nums.xs.length ≤ 4294967280
  numsR : ∀ n ∈ i.nums.xs, I64 n
  op : I64 i.op
  n : I64 i.n
  aop : I64 i.aop
  af : I64 i.af
  ag : I64 i.ag
theorem NodG.mono {G G' : Rd} {b : NodM} (h : NodG G b) (hl : Rd.le G G') : NodG G' b := ⟨h.text, h.nums.mono hl, h.numsL, h.numsR, h.op, h.n, h.aop, h.af, h.ag⟩
end Go.Proofs.YtllgkdkjcbohcaaGreatDoor
namespace Go.Proofs.YtllgkdkjcbohcaaGreatDoor
open Go.RowKit
def encV (v : Value) : List Value := [v]
mutual
/-- an interface value that has an expression -/
def Ex.rep (G : Rd) : Ex → Value → Prop
  | .leaf n, v =>
    (n.op = 1 ∧ ∃ p c, v = .iface 195 (.agg #[.slice p n.nums.length c]) ∧ Row encI 1 G p c n.nums) ∨
    (n.op = 2 ∧ v = .iface 196 (.agg #[.string ⟨n.text.toArray⟩])) ∨
    (n.op = 3 ∧ v = .iface 144 (.agg #[.string ⟨n.text.toArray⟩])) ∨
    ((n.op = 4 ∨ n.op = 5) ∧ v = .iface 198 (.agg #[.int .i64 n.op]))
  | .one n b r, v => ∃ p c vs u, v = .iface 204 (.agg #[.int .i64 n.aop, .int .i64 n.af, .int .i64 n.ag, .int .i64 n.n, .slice p vs.length c, u]) ∧ Row encV 1 G p c vs ∧ b.rep G vs ∧ r.rep G u
  | .two n l b r, v => ∃ p c vs t u, v = .iface 206 (.agg #[t, .int .i64 n.aop, .int .i64 n.af, .int .i64 n.ag, .int .i64 n.n, .slice p vs.length c, u]) ∧ Row encV 1 G p c vs ∧ l.rep G t ∧ b.rep G vs ∧ r.rep G u
  | .pick _ o b, v => ∃ p c vs t, v = .iface 208 (.agg #[t, .slice p vs.length c]) ∧ Row encV 1 G p c vs ∧ o.rep G t ∧ b.rep G vs
def Exs.rep (G : Rd) : Exs → List Value → Prop
  | .nil, vs => vs = []
  | .cons e r, vs => ∃ v t, vs = v :: t ∧ e.rep G v ∧ r.rep G t
end
mutual
theorem Ex.rep_mono {G G' : Rd} (hl : Rd.le G G') : ∀ {e : Ex} {v : Value}, e.rep G v → e.rep G' v
  | .leaf n, v, h => by
    rcases h with ⟨h1, p, c, h2, h3⟩ | h | h | h
    · exact .inl ⟨h1, p, c, h2, h3.mono hl⟩
    · exact .inr (.inl h)
    · exact .inr (.inr (.inl h))
    · exact .inr (.inr (.inr h))
  | .one n b r, v, h => by
    obtain ⟨p, c, vs, u, h1, h2, h3, h4⟩ := h
    exact ⟨p, c, vs, u, h1, h2.mono hl, Exs.rep_mono hl h3, Ex.rep_mono hl h4⟩
  | .two n l b r, v, h => by
    obtain ⟨p, c, vs, t, u, h1, h2, h5, h3, h4⟩ := h
    exact ⟨p, c, vs, t, u, h1, h2.mono hl, Ex.rep_mono hl h5, Exs.rep_mono hl h3, Ex.rep_mono hl h4⟩
  | .pick n o b, v, h => by
    obtain ⟨p, c, vs, t, h1, h2, h5, h3⟩ := h
    exact ⟨p, c, vs, t, h1, h2.mono hl, Ex.rep_mono hl h5, Exs.rep_mono hl h3⟩
theorem Exs.rep_mono {G G' : Rd} (hl : Rd.le G G') : ∀ {b : Exs} {vs : List Value}, b.rep G vs → b.rep G' vs
  | .nil, _, h => h
  | .cons e r, vs, h => by
    obtain ⟨v, t, h1, h2, h3⟩ := h
    exact ⟨v, t, h1, Ex.rep_mono hl h2, Exs.rep_mono hl h3⟩
end
theorem Exs.rep_app {G : Rd} : ∀ {b c : Exs} {vs us : List Value}, b.rep G vs → c.rep G us → (b.app c).rep G (vs ++ us)
  | .nil, c, vs, us, h, k => by
    have : vs = [] := h
    subst this; exact k
  | .cons e r, c, vs, us, h, k => by
    obtain ⟨v, t, rfl, h2, h3⟩ := h
    exact ⟨v, t ++ us, rfl, h2, Exs.rep_app h3 k⟩
theorem Exs.rep_len {G : Rd} : ∀ {b : Exs} {vs : List Value}, b.rep G vs → vs.length = b.len
  | .nil, vs, h => by have : vs = [] := h; subst this; rfl
  | .cons e r, vs, h => by
    obtain ⟨v, t, rfl, h2, h3⟩ := h
    simp [Exs.len, Exs.rep_len h3]
theorem Exs.rep_one {G : Rd} {e : Ex} {v : Value} (h : e.rep G v) : (Exs.cons e .nil).rep G [v] := ⟨v, [], rfl, h, rfl⟩
def wrongV (k : Int) : Value := .iface 139 (.int .i64 k)
def wrongP (k : Int) : List PanicEntry := [{ v := wrongV k, recovered := false }]
theorem flat_encV (vs : List Value) : vs.flatMap encV = vs := by induction vs with
  | nil => rfl
  | cons v vs ih => rw [List.flatMap_cons, ih]; rfl
theorem Ex.rep_iface {G : Rd} {e : Ex} {v : Value} (h : e.rep G v) : ∃ T u, v = .iface T u := by
  cases e with
  | leaf n => rcases h with ⟨_, p, c, h, _⟩ | ⟨_, h⟩ | ⟨_, h⟩ | ⟨_, h⟩ <;> exact ⟨_, _, h⟩
  | one n b r => obtain ⟨p, c, vs, u, h, _⟩ := h; exact ⟨_, _, h⟩
  | two n l b r => obtain ⟨p, c, vs, t, u, h, _⟩ := h; exact ⟨_, _, h⟩
  | pick n o b => obtain ⟨p, c, vs, t, h, _⟩ := h; exact ⟨_, _, h⟩
end Go.Proofs.YtllgkdkjcbohcaaGreatDoor
