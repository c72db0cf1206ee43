/-
  eval: what a part of an evaluation tells, and its calls; what is given of the functions of arrays.
-/
import Derived.Test.YtllgkdkjcbohcaaGreatDoorZGo
import Derived.Test.YtllgkdkjcbohcaaGreatDoorZBitL
import Derived.Test.YtllgkdkjcbohcaaGreatDoorZGlob
import Derived.Test.YtllgkdkjcbohcaaGreatDoorZDefer
import Derived.Test.YtllgkdkjcbohcaaGreatDoorZOpenNod
import Derived.Test.YtllgkdkjcbohcaaGreatDoorZKnown
namespace Go.Proofs.YtllgkdkjcbohcaaGreatDoor
open Go.RowKit
/-- the evaluation that goes on: its names, its fuel -/
abbrev evs (be bm : Nat) (f : Int) : HP := blk be 161 #[.map (some bm), .int .i64 f]
abbrev errE (c : Int) : List PanicEntry := [{ v := .iface 49 (.int .i64 c), recovered := false }]
/-- what a part of the evaluation tells -/
def EGot (be bm : Nat) (res : Res) (G : Rd) (w : World) (fp : List Nat) (e : Ending) (w' : World) : Prop :=
  (∃ z : Rd × ArrM × Int, (res = .ok z.2.1.arr z.2.2 ∧ ArrG z.1 z.2.1 ∧ One1 z.2.1.arr ∧ I64 z.2.2) ∧ e = .returned (arrV z.2.1) ∧ Rd.grow w G z.1 ∧ Holds w fp (ro w fp z.1 :: [evs be bm z.2.2]) w') ∨
  (∃ y : Int × Int, (res = .err y.1 ∧ y.1 ≠ 0) ∧ e = .panicked (errE y.1) ∧ Rd.grow w G G ∧ Holds w fp (ro w fp G :: [evs be bm y.2]) w')
/-- what is given of the functions of arrays, for the nodes of a tree -/
structure Given (Pm : Prims) (L : List NodM) : Prop where
  text : ∀ x ∈ L, x.op = 2 → ∀ (G : Rd) (w : World), Rd.le G w.cell? → Calls Tryz.prog 101 #[.string ⟨x.text.toArray⟩] w (Tells arrV (fun z G' => z.arr = textA x.text ∧ ArrG G' z) G w)
  one : ∀ x ∈ L, x.op = 6 → x.aop ≠ 6 → x.aop ≠ 7 → ∀ (a : ArrM) (G : Rd) (w : World), Rd.le G w.cell? → ArrG G a → Calls Tryz.prog 46 #[actV x.aop x.af x.ag, arrV a] w (ResT (Pm.one x.aop x.af x.ag a.arr) G w)
  two : ∀ x ∈ L, x.op = 7 → x.aop ≠ 6 → x.aop ≠ 7 → ∀ (a b : ArrM) (G : Rd) (w : World), Rd.le G w.cell? → ArrG G a → ArrG G b → Calls Tryz.prog 47 #[actV x.aop x.af x.ag, arrV a, arrV b] w (ResT (Pm.two x.aop x.af x.ag a.arr b.arr) G w)
  pick : (∃ x ∈ L, x.op = 8) → ∀ (a : ArrM) (bs : List ArrM) (q : Option Addr) (k : Nat) (G : Rd) (w : World), Rd.le G w.cell? → ArrG G a → Row arrE 3 G q k bs → (∀ b ∈ bs, ArrG G b) → Calls Tryz.prog 106 #[arrV a, .slice q bs.length k] w (ResT (Pm.pick a.arr (bs.map ArrM.arr)) G w)
  one1 : ∀ x ∈ L, x.op = 6 → x.aop ≠ 6 → x.aop ≠ 7 → ∀ a, (Pm.one x.aop x.af x.ag a).1 = 0 → One1 (Pm.one x.aop x.af x.ag a).2
  two1 : ∀ x ∈ L, x.op = 7 → x.aop ≠ 6 → x.aop ≠ 7 → ∀ a b, (Pm.two x.aop x.af x.ag a b).1 = 0 → One1 (Pm.two x.aop x.af x.ag a b).2
  pick1 : (∃ x ∈ L, x.op = 8) → ∀ a bs, (Pm.pick a bs).1 = 0 → One1 (Pm.pick a bs).2
/-- the call that goes on, as it is handed on -/
structure CtxM where
  pb : Option Addr
  nb : Nat
  cb : Nat
  k : Nat
  n : Nat
  alpha : Option Addr
  omega : ArrM
  deep : Nat
abbrev ctxV (z : CtxM) (be : Nat) : Value := .agg #[.slice z.pb z.nb z.cb, .int .i64 (z.k : Int), .int .i64 (z.n : Int), .pointer z.alpha, .bool z.omega.char, .slice z.omega.shape.p z.omega.shape.xs.length z.omega.shape.c, .slice z.omega.data.p z.omega.data.xs.length z.omega.data.c, .int .i64 (z.deep : Int), .pointer (some ⟨be, 0, none⟩)]
/-- the call that goes on, in a box -/
abbrev cxB (b : Nat) (z : CtxM) (be : Nat) : HP := blk b 164 #[.slice z.pb z.nb z.cb, .int .i64 (z.k : Int), .int .i64 (z.n : Int), .pointer z.alpha, .bool z.omega.char, .slice z.omega.shape.p z.omega.shape.xs.length z.omega.shape.c, .slice z.omega.data.p z.omega.data.xs.length z.omega.data.c, .int .i64 (z.deep : Int), .pointer (some ⟨be, 0, none⟩)]
/-- a pointer to an array, or none -/
def AlOk (G : Rd) (q : Option Addr) (al : Option Arr) : Prop := match al with
  | none => q = none
  | some a => ∃ (b : Nat) (m : ArrM), q = some ⟨b, 0, none⟩ ∧ Row arrE 3 G (some ⟨b, 0, none⟩) 1 [m] ∧ ArrG G m ∧ m.arr = a ∧ One1 a
structure CtxOk (p : Option Addr) (c : Nat) (L : List NodM) (G : Rd) (z : CtxM) (fn : Exs) (al : Option Arr) (om : Arr) (dd : Nat) : Prop where
  body : 0 < dd → z.pb = p ∧ z.nb = L.length ∧ z.cb = c ∧ (∃ rest, (L.map NodM.nod).drop z.k = fn.flat ++ rest) ∧ fn.ok dd ∧ fn.len = 2 * z.n + 1
  alpha : AlOk G z.alpha al
  omega : ArrG G z.omega
  omE : z.omega.arr = om
  om1 : 0 < dd → One1 om
theorem AlOk.mono {G G' : Rd} {q : Option Addr} {al : Option Arr} (h : AlOk G q al) (hl : Rd.le G G') : AlOk G' q al := by
  cases al with
  | none => exact h
  | some a =>
    obtain ⟨b, m, h1, h2, h3, h4⟩ := h
    exact ⟨b, m, h1, h2.mono hl, h3.mono hl, h4⟩
theorem CtxOk.mono {p : Option Addr} {c : Nat} {L : List NodM} {G G' : Rd} {z : CtxM} {fn : Exs} {al : Option Arr} {om : Arr} {dd : Nat} (h : CtxOk p c L G z fn al om dd) (hl : Rd.le G G') : CtxOk p c L G' z fn al om dd :=
  ⟨h.body, h.alpha.mono hl, h.omega.mono hl, h.omE, h.om1⟩
/-- names and their values -/
def EnvOk (G : Rd) (ks : List (List UInt8 × Value)) (env : Names) : Prop := ∀ l, match seekV ks l with
  | none => env l = none
  | some v => ∃ m : ArrM, v = arrV m ∧ ArrG G m ∧ One1 m.arr ∧ env l = some m.arr
theorem EnvOk.mono {G G' : Rd} {ks : List (List UInt8 × Value)} {env : Names} (h : EnvOk G ks env) (hl : Rd.le G G') : EnvOk G' ks env := fun l => by
  have h1 := h l
  cases hs : seekV ks l with
  | none => rw [hs] at h1; exact h1
  | some v =>
    rw [hs] at h1
    obtain ⟨m, k1, k2, k3, k4⟩ := h1
    exact ⟨m, k1, k2.mono hl, k3, k4⟩
/-- the tree and the names, as they may be read -/
structure Sit (p : Option Addr) (c : Nat) (L : List NodM) (ks : List (List UInt8 × Value)) (env : Names) (G : Rd) : Prop where
  row : Row nodE 7 G p c L
  nods : ∀ x ∈ L, NodG G x
  env : EnvOk G ks env
  len : L.length ≤ 400
theorem Sit.mono {p : Option Addr} {c : Nat} {L : List NodM} {ks : List (List UInt8 × Value)} {env : Names} {G G' : Rd} (h : Sit p c L ks env G) (hl : Rd.le G G') : Sit p c L ks env G' := ⟨h.row.mono hl, fun x hx => (h.nods x hx).mono hl, h.env.mono hl, h.len⟩
/-- the contract of an expression of at most N nodes, where D calls more may go on -/
def ValC (Pm : Prims) (p : Option Addr) (c : Nat) (L : List NodM) (ks : List (List UInt8 × Value)) (env : Names) (D N : Nat) : Prop :=
  ∀ (e : Ex) (k dd : Nat) (rest : List Nod) (z : CtxM) (fn : Exs) (al : Option Arr) (om : Arr) (be bm : Nat) (fu : Int) (G : Rd) (w : World) (fp : List Nat), e.flat.length ≤ N → e.ok dd → (L.map NodM.nod).drop k = e.flat ++ rest → z.deep + D = 50 →
    CtxOk p c L G z fn al om dd → Sit p c L ks env G → MapVAt w bm ks → bm ≠ be → I64 fu → Own [evs be bm fu] fp w → Rd.sub G fp w →
    Calls Tryz.prog 92 #[ctxV z be, .slice p L.length c, .int .i64 (k : Int)] w (EGot be bm (evX Pm env (runD Pm env D) fn al om e fu) G w fp)
/-- the contract of a function that is called -/
def RunC (Pm : Prims) (p : Option Addr) (c : Nat) (L : List NodM) (ks : List (List UInt8 × Value)) (env : Names) (D : Nat) : Prop :=
  ∀ (dd : Nat) (z : CtxM) (fn : Exs) (al : Option Arr) (om : Arr) (be bm : Nat) (fu : Int) (G : Rd) (w : World) (fp : List Nat), 0 < dd → z.deep + D = 51 →
    CtxOk p c L G z fn al om dd → Sit p c L ks env G → MapVAt w bm ks → bm ≠ be → I64 fu → Own [evs be bm fu] fp w → Rd.sub G fp w →
    Calls Tryz.prog 229 #[ctxV z be] w (EGot be bm (runD Pm env D fn al om fu) G w fp)
theorem own_evs {be bm : Nat} {f : Int} {fp : List Nat} {w : World} (h : Own [evs be bm f] fp w) : fp = [be] := by
  obtain ⟨f1, f2, rfl, h1, h2, _⟩ := h
  obtain rfl := own_nil h2
  obtain ⟨rfl, _⟩ := h1
  rfl
section
variable {P : Program} {K : Cx} {ρ : Env} {m r : List HP} {ty : TypeId} {pos : String} {aft : Array Edge} {g : Option (Nat × Bool)} {ops : Array Oper} {Q : Exit → Act → World → Prop} {rest : List Oper} {d : Nat} {G : Rd} {xs : List Operand} {ats : Array TypeId} {vs : List Value}
/-- a call of a part of the evaluation -/
theorem WL_callE {f : FuncId} [S : FnT P f] (be bm : Nat) (fu : Int) (res : Res)
    (hc : ∀ w fp, Holds K.w0 K.F (ro K.w0 K.F G :: ([evs be bm fu] ++ r)) w → Own [evs be bm fu] fp w → Rd.sub G fp w → (∀ i ∈ fp, i < K.w0.heap.size → i ∈ K.F) → Calls P f vs.toArray w (EGot be bm res G w fp))
    (hk : ∀ (G' : Rd) (v : ArrM) (f' : Int), res = .ok v.arr f' → ArrG G' v → One1 v.arr → I64 f' → Rd.grow K.w0 G G' → WL P K ops Q rest ((d, arrV v) :: ρ) (ro K.w0 K.F G' :: (evs be bm f' :: r)))
    (kp : ∀ (c f' : Int), res = .err c → c ≠ 0 → EX K Q (.panic (errE c)) ρ (ro K.w0 K.F G :: (evs be bm f' :: r)))
    (e : Ent m (ro K.w0 K.F G :: ([evs be bm fu] ++ r)) := by exact zent) (hx : opvs ρ xs = some vs := by rfl) (hg : guardB ops g ρ = some true := by rfl)
    (hn : (guardN K.N ops g && Nat.blt d K.N) = true := by rfl) : WL P K ops Q (⟨some d, .call ⟨.value (.func f), xs.toArray, ats⟩, ty, pos, aft, g⟩ :: rest) ρ m :=
  WL_callGP (m1 := [evs be bm fu]) (X := Rd × ArrM × Int) (Y := Int × Int) (V := fun z => arrV z.2.1) (Gx := fun z => z.1) (M := fun z => [evs be bm z.2.2]) (I := fun z => res = .ok z.2.1.arr z.2.2 ∧ ArrG z.1 z.2.1 ∧ One1 z.2.1.arr ∧ I64 z.2.2) (C := fun y => errE y.1) (Gy := fun _ => G) (MP := fun y => [evs be bm y.2]) (J := fun y => res = .err y.1 ∧ y.1 ≠ 0)
    e hx hg hn hc (fun z h hgr => hk z.1 z.2.1 z.2.2 h.1 h.2.1 h.2.2.1 h.2.2.2 hgr) (fun y h _ => kp y.1 y.2 h.1 h.2)
/-- what a step of the evaluation tells -/
def SGot (be bm : Nat) (f : Int) (G : Rd) (w : World) (fp : List Nat) (e : Ending) (w' : World) : Prop :=
  (∃ _z : Unit, 0 < f ∧ e = .returned (.tuple #[]) ∧ Rd.grow w G G ∧ Holds w fp (ro w fp G :: [evs be bm (f - 1)]) w') ∨
  (∃ _y : Unit, f ≤ 0 ∧ e = .panicked (errE 8) ∧ Rd.grow w G G ∧ Holds w fp (ro w fp G :: [evs be bm f]) w')
theorem WL_callS {f : FuncId} [S : FnT P f] (be bm : Nat) (fu : Int)
    (hc : ∀ w fp, Own [evs be bm fu] fp w → Rd.sub G fp w → Calls P f vs.toArray w (SGot be bm fu G w fp))
    (hk : 0 < fu → WL P K ops Q rest ((d, .tuple #[]) :: ρ) (ro K.w0 K.F G :: (evs be bm (fu - 1) :: r)))
    (kp : fu ≤ 0 → EX K Q (.panic (errE 8)) ρ (ro K.w0 K.F G :: (evs be bm fu :: r)))
    (e : Ent m (ro K.w0 K.F G :: ([evs be bm fu] ++ r)) := by exact zent) (hx : opvs ρ xs = some vs := by rfl) (hg : guardB ops g ρ = some true := by rfl)
    (hn : (guardN K.N ops g && Nat.blt d K.N) = true := by rfl) : WL P K ops Q (⟨some d, .call ⟨.value (.func f), xs.toArray, ats⟩, ty, pos, aft, g⟩ :: rest) ρ m :=
  WL_callGP (m1 := [evs be bm fu]) (X := Unit) (Y := Unit) (V := fun _ => .tuple #[]) (Gx := fun _ => G) (M := fun _ => [evs be bm (fu - 1)]) (I := fun _ => 0 < fu) (C := fun _ => errE 8) (Gy := fun _ => G) (MP := fun _ => [evs be bm fu]) (J := fun _ => fu ≤ 0)
    e hx hg hn (fun w fp _ h1 h2 _ => hc w fp h1 h2) (fun _ h _ => hk h) (fun _ h _ => kp h)
end
end Go.Proofs.YtllgkdkjcbohcaaGreatDoor
