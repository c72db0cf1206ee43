/-
  What tree.Parse answers, told plainly: the parser on the words that are left, its answers as expressions; an error is told by how many words are left. Of no program.
  The parser told without fuel: what each of its functions tells of the words that are left. Of no program.
  The parser looks at one word at a time: what it tells hangs on the words that it takes and on the word behind them; where a word cannot stand it stops there. Of no program.
-/
import Derived.Test.YtngeooflfkpikaaGreatDoorZCodePlain
namespace Go.Proofs.YtngeooflfkpikaaGreatDoor
def Exs.of : List Ex → Exs
  | [] => .nil
  | e :: r => .cons e (Exs.of r)
theorem Exs.of_list : ∀ l : List Ex, (Exs.of l).list = l
  | [] => rfl
  | e :: r => by simp [Exs.of, Exs.list, Exs.of_list r]
theorem Exs.of_len : ∀ l : List Ex, (Exs.of l).len = l.length
  | [] => rfl
  | e :: r => by simp [Exs.of, Exs.len, Exs.of_len r]
/-- a function: its act, how many conditions, its parts -/
structure FunE where
  aop : Int
  af : Int := 0
  ag : Int := 0
  n : Nat := 0
  body : List Ex := []
def FunE.node (f : FunE) (op : Int) : Nod := ⟨op, f.aop, f.af, f.ag, f.n, [], []⟩
def kindT : List Tok → Int
  | [] => 0
  | t :: _ => t.kind
/-- need the next word to be of a kind -/
def needT (k : Int) (l : List Tok) : Except Nat (Tok × List Tok) := match l with
  | [] => .error 0
  | t :: r => if t.kind = k then .ok (t, r) else .error (r.length + 1)
def startsT (w : Nat) (l : List Tok) : Bool := decide (kindT l = 4) || decide (kindT l = 11) || decide (kindT l = 14) || (decide (kindT l = 20) && decide (0 < w))
def isNumK (t : Tok) : Bool := decide (t.kind = 1)
mutual
/-- atom -/
def atomE : Nat → Nat → List Tok → Except Nat (Ex × List Tok)
  | 0, _, l => .error l.length
  | f + 1, w, l =>
    if kindT l = 1 then .ok (.leaf ⟨1, 0, 0, 0, 0, (l.takeWhile isNumK).map (·.num), []⟩, l.dropWhile isNumK)
    else if kindT l = 2 then (needT 2 l).bind fun x => .ok (.leaf ⟨2, 0, 0, 0, 0, [], x.1.text⟩, x.2)
    else if kindT l = 3 then (needT 3 l).bind fun x => .ok (.leaf ⟨3, 0, 0, 0, 0, [], x.1.text⟩, x.2)
    else if kindT l = 18 ∨ kindT l = 19 then (if w = 0 then .error l.length else .ok (.leaf ⟨if kindT l = 18 then 4 else 5, 0, 0, 0, 0, [], []⟩, l.tail))
    else (needT 5 l).bind fun x => (exprE f w x.2).bind fun e => (needT 6 e.2).bind fun y => .ok (e.1, y.2)
/-- an atom with its indices -/
def picksE : Nat → Nat → Ex → List Tok → Except Nat (Ex × List Tok)
  | 0, _, _, l => .error l.length
  | f + 1, w, e, l =>
    if kindT l = 7 then (exprE f w l.tail).bind fun x => (semisE f w [x.1] x.2).bind fun y => (needT 8 y.2).bind fun z =>
      picksE f w (.pick ⟨8, 0, 0, 0, y.1.length, [], []⟩ e (Exs.of y.1)) z.2
    else .ok (e, l)
/-- the indices behind the first -/
def semisE : Nat → Nat → List Ex → List Tok → Except Nat (List Ex × List Tok)
  | 0, _, _, l => .error l.length
  | f + 1, w, by_, l => if kindT l = 9 then (exprE f w l.tail).bind fun x => semisE f w (by_ ++ [x.1]) x.2 else .ok (by_, l)
/-- a function -/
def funE : Nat → Nat → List Tok → Except Nat (FunE × List Tok)
  | 0, _, l => .error l.length
  | f + 1, w, l =>
    if kindT l = 11 then (needT 12 l.tail).bind fun x => (needT 4 x.2).bind fun y => .ok ({ aop := 3, af := y.1.fn }, y.2)
    else if kindT l = 20 then .ok ({ aop := 7 }, l.tail)
    else if kindT l = 14 then (bodyE f (w + 1) 0 [] l.tail).bind fun x => (needT 15 x.2).bind fun y => .ok ({ aop := 6, n := x.1.1, body := x.1.2 }, y.2)
    else (needT 4 l).bind fun x =>
      if kindT x.2 = 13 then .ok ({ aop := 5, af := x.1.fn }, x.2.tail)
      else if kindT x.2 = 12 then (needT 4 x.2.tail).bind fun y => .ok ({ aop := 4, af := x.1.fn, ag := y.1.fn }, y.2)
      else if kindT x.2 = 4 then (match x.2 with
        | t :: r => if t.fn = 33 then .ok ({ aop := 1, af := x.1.fn }, r) else if t.fn = 34 then .ok ({ aop := 2, af := x.1.fn }, r) else .ok ({ aop := 0, af := x.1.fn }, x.2)
        | [] => .ok ({ aop := 0, af := x.1.fn }, x.2))
      else .ok ({ aop := 0, af := x.1.fn }, x.2)
/-- what is written out: so many conditions, its parts -/
def bodyE : Nat → Nat → Nat → List Ex → List Tok → Except Nat ((Nat × List Ex) × List Tok)
  | 0, _, _, _, l => .error l.length
  | f + 1, w, n, b, l => (exprE f w l).bind fun x =>
    if kindT x.2 = 16 then (exprE f w x.2.tail).bind fun y => (needT 17 y.2).bind fun z => bodyE f w (n + 1) (b ++ [x.1, y.1]) z.2
    else .ok ((n, b ++ [x.1]), x.2)
/-- an expression -/
def exprE : Nat → Nat → List Tok → Except Nat (Ex × List Tok)
  | 0, _, l => .error l.length
  | f + 1, w, l =>
    if startsT w l = true then (funE f w l).bind fun g => (exprE f w g.2).bind fun r => .ok (.one (g.1.node 6) (Exs.of g.1.body) r.1, r.2)
    else (atomE f w l).bind fun a => (picksE f w a.1 a.2).bind fun e =>
      if startsT w e.2 = true then (funE f w e.2).bind fun g => (exprE f w g.2).bind fun r => .ok (.two (g.1.node 7) e.1 (Exs.of g.1.body) r.1, r.2)
      else .ok (e.1, e.2)
end
/-- a line; fuel: more than it can take -/
def fuelT (l : List Tok) : Nat := 4 * l.length + 8
def lineE (l : List Tok) : Except Nat ((Option (List UInt8) × Ex) × List Tok) := match l with
  | t :: u :: r => if t.kind = 3 ∧ u.kind = 10 then (exprE (fuelT l) 0 r).bind fun x => .ok ((some t.text, x.1), x.2) else (exprE (fuelT l) 0 l).bind fun x => .ok ((none, x.1), x.2)
  | _ => (exprE (fuelT l) 0 l).bind fun x => .ok ((none, x.1), x.2)
/-- a line's nodes -/
def lineN (x : Option (List UInt8) × Ex) : List Nod := match x.1 with
  | some s => ⟨9, 0, 0, 0, 0, [], s⟩ :: x.2.flat
  | none => x.2.flat
/-! ## how many words are taken -/
theorem bind_ok {ε α β : Type} {x : Except ε α} {g : α → Except ε β} {y : β} (h : x.bind g = .ok y) : ∃ a, x = .ok a ∧ g a = .ok y := by
  cases x with
  | error e => cases h
  | ok a => exact ⟨a, rfl, h⟩
theorem needT_len {k : Int} {l : List Tok} {t : Tok} {r : List Tok} (h : needT k l = .ok (t, r)) : l = t :: r ∧ t.kind = k := by
  unfold needT at h
  cases l with
  | nil => cases h
  | cons u l =>
    simp only at h
    split at h
    · rename_i hk
      injection h with h
      injection h with h1 h2
      subst h1 h2
      exact ⟨rfl, hk⟩
    · cases h
theorem needT_lt {k : Int} {l : List Tok} {x : Tok × List Tok} (h : needT k l = .ok x) : x.2.length + 1 = l.length := by
  obtain ⟨t, r⟩ := x
  rw [(needT_len h).1]; rfl
theorem tail_lt {l : List Tok} {k : Int} (h : kindT l = k) (hk : k ≠ 0) : l.tail.length + 1 = l.length := by
  cases l with
  | nil => exact absurd h.symm hk
  | cons t r => rfl
structure LenP (f : Nat) : Prop where
  ex : ∀ w l x, exprE f w l = .ok x → x.2.length < l.length
  at' : ∀ w l x, atomE f w l = .ok x → x.2.length < l.length
  pk : ∀ w e l x, picksE f w e l = .ok x → x.2.length ≤ l.length
  sm : ∀ w b l x, semisE f w b l = .ok x → x.2.length ≤ l.length
  fn : ∀ w l x, funE f w l = .ok x → x.2.length < l.length
  bd : ∀ w n b l x, bodyE f w n b l = .ok x → x.2.length < l.length
theorem lenP : ∀ f, LenP f
  | 0 => ⟨fun _ _ _ h => by simp [exprE] at h, fun _ _ _ h => by simp [atomE] at h, fun _ _ _ _ h => by simp [picksE] at h, fun _ _ _ _ h => by simp [semisE] at h, fun _ _ _ h => by simp [funE] at h, fun _ _ _ _ _ h => by simp [bodyE] at h⟩
  | f + 1 => by
    have ih := lenP f
    refine ⟨fun w l x h => ?_, fun w l x h => ?_, fun w e l x h => ?_, fun w b l x h => ?_, fun w l x h => ?_, fun w n b l x h => ?_⟩
    · rw [exprE] at h
      split at h
      · obtain ⟨g, hg, h⟩ := bind_ok h
        obtain ⟨r, hr, h⟩ := bind_ok h
        injection h with h; subst h
        have := ih.fn _ _ _ hg; have := ih.ex _ _ _ hr
        show r.2.length < _
        omega
      · obtain ⟨a, ha, h⟩ := bind_ok h
        obtain ⟨e, he, h⟩ := bind_ok h
        have := ih.at' _ _ _ ha; have := ih.pk _ _ _ _ he
        split at h
        · obtain ⟨g, hg, h⟩ := bind_ok h
          obtain ⟨r, hr, h⟩ := bind_ok h
          injection h with h; subst h
          have := ih.fn _ _ _ hg; have := ih.ex _ _ _ hr
          show r.2.length < _
          omega
        · injection h with h; subst h
          show e.2.length < _
          omega
    · rw [atomE] at h
      split at h
      · rename_i hk
        injection h with h; subst h
        show (l.dropWhile isNumK).length < _
        cases l with
        | nil => simp [kindT] at hk
        | cons t r =>
          have hk' : isNumK t = true := decide_eq_true hk
          rw [List.dropWhile_cons_of_pos hk']
          have := (List.dropWhile_suffix (l := r) isNumK).length_le
          simp only [List.length_cons]
          omega
      split at h
      · obtain ⟨a, ha, h⟩ := bind_ok h
        injection h with h; subst h
        have := needT_lt ha
        show a.2.length < _
        omega
      split at h
      · obtain ⟨a, ha, h⟩ := bind_ok h
        injection h with h; subst h
        have := needT_lt ha
        show a.2.length < _
        omega
      split at h
      · rename_i hk
        split at h
        · cases h
        · injection h with h; subst h
          have : l.tail.length + 1 = l.length := by rcases hk with hk | hk <;> exact tail_lt hk (by decide)
          show l.tail.length < _
          omega
      · obtain ⟨a, ha, h⟩ := bind_ok h
        obtain ⟨e, he, h⟩ := bind_ok h
        obtain ⟨y, hy, h⟩ := bind_ok h
        injection h with h; subst h
        have := needT_lt ha; have := ih.ex _ _ _ he; have := needT_lt hy
        show y.2.length < _
        omega
    · rw [picksE] at h
      split at h
      · rename_i hk
        have := tail_lt hk (by decide)
        obtain ⟨a, ha, h⟩ := bind_ok h
        obtain ⟨b, hb, h⟩ := bind_ok h
        obtain ⟨z, hz, h⟩ := bind_ok h
        have := ih.ex _ _ _ ha; have := ih.sm _ _ _ _ hb; have := needT_lt hz; have := ih.pk _ _ _ _ h
        omega
      · injection h with h; subst h; exact Nat.le_refl _
    · rw [semisE] at h
      split at h
      · rename_i hk
        have := tail_lt hk (by decide)
        obtain ⟨a, ha, h⟩ := bind_ok h
        have := ih.ex _ _ _ ha; have := ih.sm _ _ _ _ h
        omega
      · injection h with h; subst h; exact Nat.le_refl _
    · rw [funE] at h
      split at h
      · rename_i hk
        have := tail_lt hk (by decide)
        obtain ⟨a, ha, h⟩ := bind_ok h
        obtain ⟨b, hb, h⟩ := bind_ok h
        injection h with h; subst h
        have := needT_lt ha; have := needT_lt hb
        show b.2.length < _
        omega
      split at h
      · rename_i hk
        have := tail_lt hk (by decide)
        injection h with h; subst h
        show l.tail.length < _
        omega
      split at h
      · rename_i hk
        have := tail_lt hk (by decide)
        obtain ⟨a, ha, h⟩ := bind_ok h
        obtain ⟨b, hb, h⟩ := bind_ok h
        injection h with h; subst h
        have := ih.bd _ _ _ _ _ ha; have := needT_lt hb
        show b.2.length < _
        omega
      obtain ⟨a, ha, h⟩ := bind_ok h
      have := needT_lt ha
      split at h
      · rename_i hk
        have := tail_lt hk (by decide)
        injection h with h; subst h
        show a.2.tail.length < _
        omega
      split at h
      · rename_i hk
        have := tail_lt hk (by decide)
        obtain ⟨b, hb, h⟩ := bind_ok h
        injection h with h; subst h
        have := needT_lt hb
        show b.2.length < _
        omega
      split at h
      · split at h
        · rename_i t r hr
          rw [hr] at this
          simp only [List.length_cons] at this
          split at h
          · injection h with h; subst h
            show r.length < _
            omega
          split at h
          · injection h with h; subst h
            show r.length < _
            omega
          · injection h with h; subst h
            show a.2.length < _
            rw [hr]; simp only [List.length_cons]; omega
        · injection h with h; subst h
          show a.2.length < _
          omega
      · injection h with h; subst h
        show a.2.length < _
        omega
    · rw [bodyE] at h
      obtain ⟨a, ha, h⟩ := bind_ok h
      have := ih.ex _ _ _ ha
      split at h
      · rename_i hk
        have := tail_lt hk (by decide)
        obtain ⟨y, hy, h⟩ := bind_ok h
        obtain ⟨z, hz, h⟩ := bind_ok h
        have := ih.ex _ _ _ hy; have := needT_lt hz; have := ih.bd _ _ _ _ _ h
        omega
      · injection h with h; subst h
        show a.2.length < _
        omega
/-! ## more fuel answers the same -/
theorem bind_eq {ε α β : Type} {x x' : Except ε α} {g g' : α → Except ε β} (h : x = x') (k : ∀ a, x' = .ok a → g a = g' a) : x.bind g = x'.bind g' := by
  subst h
  cases x with
  | error e => rfl
  | ok a => exact k a rfl
structure FuelP (f : Nat) : Prop where
  ex : ∀ w l, 4 * l.length + 4 ≤ f → exprE (f + 1) w l = exprE f w l
  at' : ∀ w l, 4 * l.length + 1 ≤ f → atomE (f + 1) w l = atomE f w l
  pk : ∀ w e l, 4 * l.length + 1 ≤ f → picksE (f + 1) w e l = picksE f w e l
  sm : ∀ w b l, 4 * l.length + 1 ≤ f → semisE (f + 1) w b l = semisE f w b l
  fn : ∀ w l, 4 * l.length + 2 ≤ f → funE (f + 1) w l = funE f w l
  bd : ∀ w n b l, 4 * l.length + 5 ≤ f → bodyE (f + 1) w n b l = bodyE f w n b l
theorem fuelP : ∀ f, FuelP f
  | 0 => ⟨fun _ _ h => by omega, fun _ _ h => by omega, fun _ _ _ h => by omega, fun _ _ _ h => by omega, fun _ _ h => by omega, fun _ _ _ _ h => by omega⟩
  | f + 1 => by
    have ih := fuelP f
    have ln := lenP f
    refine ⟨fun w l h => ?_, fun w l h => ?_, fun w e l h => ?_, fun w b l h => ?_, fun w l h => ?_, fun w n b l h => ?_⟩
    · rw [exprE, exprE]
      split
      · exact bind_eq (ih.fn _ _ (by omega)) fun g hg => bind_eq (ih.ex _ _ (by have := ln.fn _ _ _ hg; omega)) fun _ _ => rfl
      · refine bind_eq (ih.at' _ _ (by omega)) fun a ha => ?_
        have h1 := ln.at' _ _ _ ha
        refine bind_eq (ih.pk _ _ _ (by omega)) fun e he => ?_
        have h2 := ln.pk _ _ _ _ he
        split
        · exact bind_eq (ih.fn _ _ (by omega)) fun g hg => bind_eq (ih.ex _ _ (by have := ln.fn _ _ _ hg; omega)) fun _ _ => rfl
        · rfl
    · rw [atomE, atomE]
      split
      · rfl
      split
      · rfl
      split
      · rfl
      split
      · rfl
      · refine bind_eq rfl fun a ha => ?_
        have h1 := needT_lt ha
        exact bind_eq (ih.ex _ _ (by omega)) fun _ _ => rfl
    · rw [picksE, picksE]
      split
      · rename_i hk
        have h0 := tail_lt hk (by decide)
        refine bind_eq (ih.ex _ _ (by omega)) fun a ha => ?_
        have h1 := ln.ex _ _ _ ha
        refine bind_eq (ih.sm _ _ _ (by omega)) fun b hb => ?_
        have h2 := ln.sm _ _ _ _ hb
        refine bind_eq rfl fun z hz => ?_
        have h3 := needT_lt hz
        exact ih.pk _ _ _ (by omega)
      · rfl
    · rw [semisE, semisE]
      split
      · rename_i hk
        have h0 := tail_lt hk (by decide)
        refine bind_eq (ih.ex _ _ (by omega)) fun a ha => ?_
        have h1 := ln.ex _ _ _ ha
        exact ih.sm _ _ _ (by omega)
      · rfl
    · rw [funE, funE]
      split
      · rfl
      split
      · rfl
      split
      · rename_i hk
        have h0 := tail_lt hk (by decide)
        exact bind_eq (ih.bd _ _ _ _ (by omega)) fun _ _ => rfl
      · rfl
    · rw [bodyE, bodyE]
      refine bind_eq (ih.ex _ _ (by omega)) fun a ha => ?_
      have h1 := ln.ex _ _ _ ha
      split
      · rename_i hk
        have h0 := tail_lt hk (by decide)
        refine bind_eq (ih.ex _ _ (by omega)) fun y hy => ?_
        have h2 := ln.ex _ _ _ hy
        refine bind_eq rfl fun z hz => ?_
        have h3 := needT_lt hz
        exact ih.bd _ _ _ _ (by omega)
      · rfl
end Go.Proofs.YtngeooflfkpikaaGreatDoor
namespace Go.Proofs.YtngeooflfkpikaaGreatDoor
theorem exE_ge {f w : Nat} {l : List Tok} : ∀ k, 4 * l.length + 4 ≤ f → exprE (f + k) w l = exprE f w l
  | 0, _ => rfl
  | k + 1, h => ((fuelP (f + k)).ex w l (by omega)).trans (exE_ge k h)
theorem atE_ge {f w : Nat} {l : List Tok} : ∀ k, 4 * l.length + 1 ≤ f → atomE (f + k) w l = atomE f w l
  | 0, _ => rfl
  | k + 1, h => ((fuelP (f + k)).at' w l (by omega)).trans (atE_ge k h)
theorem pkE_ge {f w : Nat} {e : Ex} {l : List Tok} : ∀ k, 4 * l.length + 1 ≤ f → picksE (f + k) w e l = picksE f w e l
  | 0, _ => rfl
  | k + 1, h => ((fuelP (f + k)).pk w e l (by omega)).trans (pkE_ge k h)
theorem smE_ge {f w : Nat} {b : List Ex} {l : List Tok} : ∀ k, 4 * l.length + 1 ≤ f → semisE (f + k) w b l = semisE f w b l
  | 0, _ => rfl
  | k + 1, h => ((fuelP (f + k)).sm w b l (by omega)).trans (smE_ge k h)
theorem fnE_ge {f w : Nat} {l : List Tok} : ∀ k, 4 * l.length + 2 ≤ f → funE (f + k) w l = funE f w l
  | 0, _ => rfl
  | k + 1, h => ((fuelP (f + k)).fn w l (by omega)).trans (fnE_ge k h)
theorem bdE_ge {f w n : Nat} {b : List Ex} {l : List Tok} : ∀ k, 4 * l.length + 5 ≤ f → bodyE (f + k) w n b l = bodyE f w n b l
  | 0, _ => rfl
  | k + 1, h => ((fuelP (f + k)).bd w n b l (by omega)).trans (bdE_ge k h)
def exP (w : Nat) (l : List Tok) : Except Nat (Ex × List Tok) := exprE (4 * l.length + 5) w l
def atP (w : Nat) (l : List Tok) : Except Nat (Ex × List Tok) := atomE (4 * l.length + 5) w l
def pkP (w : Nat) (e : Ex) (l : List Tok) : Except Nat (Ex × List Tok) := picksE (4 * l.length + 5) w e l
def smP (w : Nat) (b : List Ex) (l : List Tok) : Except Nat (List Ex × List Tok) := semisE (4 * l.length + 5) w b l
def fnP (w : Nat) (l : List Tok) : Except Nat (FunE × List Tok) := funE (4 * l.length + 5) w l
def bdP (w n : Nat) (b : List Ex) (l : List Tok) : Except Nat ((Nat × List Ex) × List Tok) := bodyE (4 * l.length + 5) w n b l
/-- a term -/
def tmP (w : Nat) (l : List Tok) : Except Nat (Ex × List Tok) := (atP w l).bind fun a => pkP w a.1 a.2
theorem exP_of {f w : Nat} {l : List Tok} (h : 4 * l.length + 4 ≤ f) : exprE f w l = exP w l := by
  unfold exP
  have h1 := exE_ge (f := 4 * l.length + 4) (w := w) (l := l) 1 (Nat.le_refl _)
  have h2 := exE_ge (f := 4 * l.length + 4) (w := w) (l := l) (f - (4 * l.length + 4)) (Nat.le_refl _)
  rw [show 4 * l.length + 4 + (f - (4 * l.length + 4)) = f by omega] at h2
  exact h2.trans h1.symm
theorem atP_of {f w : Nat} {l : List Tok} (h : 4 * l.length + 1 ≤ f) : atomE f w l = atP w l := by
  unfold atP
  have h1 := atE_ge (f := 4 * l.length + 1) (w := w) (l := l) 4 (Nat.le_refl _)
  have h2 := atE_ge (f := 4 * l.length + 1) (w := w) (l := l) (f - (4 * l.length + 1)) (Nat.le_refl _)
  rw [show 4 * l.length + 1 + (f - (4 * l.length + 1)) = f by omega] at h2
  exact h2.trans h1.symm
theorem pkP_of {f w : Nat} {e : Ex} {l : List Tok} (h : 4 * l.length + 1 ≤ f) : picksE f w e l = pkP w e l := by
  unfold pkP
  have h1 := pkE_ge (f := 4 * l.length + 1) (w := w) (e := e) (l := l) 4 (Nat.le_refl _)
  have h2 := pkE_ge (f := 4 * l.length + 1) (w := w) (e := e) (l := l) (f - (4 * l.length + 1)) (Nat.le_refl _)
  rw [show 4 * l.length + 1 + (f - (4 * l.length + 1)) = f by omega] at h2
  exact h2.trans h1.symm
theorem smP_of {f w : Nat} {b : List Ex} {l : List Tok} (h : 4 * l.length + 1 ≤ f) : semisE f w b l = smP w b l := by
  unfold smP
  have h1 := smE_ge (f := 4 * l.length + 1) (w := w) (b := b) (l := l) 4 (Nat.le_refl _)
  have h2 := smE_ge (f := 4 * l.length + 1) (w := w) (b := b) (l := l) (f - (4 * l.length + 1)) (Nat.le_refl _)
  rw [show 4 * l.length + 1 + (f - (4 * l.length + 1)) = f by omega] at h2
  exact h2.trans h1.symm
theorem fnP_of {f w : Nat} {l : List Tok} (h : 4 * l.length + 2 ≤ f) : funE f w l = fnP w l := by
  unfold fnP
  have h1 := fnE_ge (f := 4 * l.length + 2) (w := w) (l := l) 3 (Nat.le_refl _)
  have h2 := fnE_ge (f := 4 * l.length + 2) (w := w) (l := l) (f - (4 * l.length + 2)) (Nat.le_refl _)
  rw [show 4 * l.length + 2 + (f - (4 * l.length + 2)) = f by omega] at h2
  exact h2.trans h1.symm
theorem bdP_of {f w n : Nat} {b : List Ex} {l : List Tok} (h : 4 * l.length + 5 ≤ f) : bodyE f w n b l = bdP w n b l := by
  unfold bdP
  have h2 := bdE_ge (f := 4 * l.length + 5) (w := w) (n := n) (b := b) (l := l) (f - (4 * l.length + 5)) (Nat.le_refl _)
  rw [show 4 * l.length + 5 + (f - (4 * l.length + 5)) = f by omega] at h2
  exact h2
theorem exP_lt {w : Nat} {l : List Tok} {x : Ex × List Tok} (h : exP w l = .ok x) : x.2.length < l.length := (lenP _).ex _ _ _ h
theorem atP_lt {w : Nat} {l : List Tok} {x : Ex × List Tok} (h : atP w l = .ok x) : x.2.length < l.length := (lenP _).at' _ _ _ h
theorem pkP_le {w : Nat} {e : Ex} {l : List Tok} {x : Ex × List Tok} (h : pkP w e l = .ok x) : x.2.length ≤ l.length := (lenP _).pk _ _ _ _ h
theorem smP_le {w : Nat} {b : List Ex} {l : List Tok} {x : List Ex × List Tok} (h : smP w b l = .ok x) : x.2.length ≤ l.length := (lenP _).sm _ _ _ _ h
theorem fnP_lt {w : Nat} {l : List Tok} {x : FunE × List Tok} (h : fnP w l = .ok x) : x.2.length < l.length := (lenP _).fn _ _ _ h
theorem exP_eq (w : Nat) (l : List Tok) : exP w l =
    if startsT w l = true then (fnP w l).bind fun g => (exP w g.2).bind fun r => .ok (.one (g.1.node 6) (Exs.of g.1.body) r.1, r.2)
    else (tmP w l).bind fun e =>
      if startsT w e.2 = true then (fnP w e.2).bind fun g => (exP w g.2).bind fun r => .ok (.two (g.1.node 7) e.1 (Exs.of g.1.body) r.1, r.2)
      else .ok (e.1, e.2) := by
  rw [← exP_of (f := (4 * l.length + 5) + 1) (by omega), exprE]
  split
  · refine bind_eq (fnP_of (by omega)) fun g hg => bind_eq (exP_of ?_) fun _ _ => rfl
    have := fnP_lt hg; omega
  · have h0 : tmP w l = (atP w l).bind fun a => pkP w a.1 a.2 := rfl
    rw [h0]
    rw [show ∀ (F : Ex × List Tok → Except Nat (Ex × List Tok)), ((atP w l).bind fun a => pkP w a.1 a.2).bind F = (atP w l).bind fun a => (pkP w a.1 a.2).bind F from fun F => by cases atP w l <;> rfl]
    refine bind_eq (atP_of (by omega)) fun a ha => ?_
    have h1 := atP_lt ha
    refine bind_eq (pkP_of (by omega)) fun e he => ?_
    have h2 := pkP_le he
    split
    · refine bind_eq (fnP_of (by omega)) fun g hg => bind_eq (exP_of ?_) fun _ _ => rfl
      have := fnP_lt hg; omega
    · rfl
theorem atP_eq (w : Nat) (l : List Tok) : atP w l =
    if kindT l = 1 then .ok (.leaf ⟨1, 0, 0, 0, 0, (l.takeWhile isNumK).map (·.num), []⟩, l.dropWhile isNumK)
    else if kindT l = 2 then (needT 2 l).bind fun x => .ok (.leaf ⟨2, 0, 0, 0, 0, [], x.1.text⟩, x.2)
    else if kindT l = 3 then (needT 3 l).bind fun x => .ok (.leaf ⟨3, 0, 0, 0, 0, [], x.1.text⟩, x.2)
    else if kindT l = 18 ∨ kindT l = 19 then (if w = 0 then .error l.length else .ok (.leaf ⟨if kindT l = 18 then 4 else 5, 0, 0, 0, 0, [], []⟩, l.tail))
    else (needT 5 l).bind fun x => (exP w x.2).bind fun e => (needT 6 e.2).bind fun y => .ok (e.1, y.2) := by
  rw [← atP_of (f := (4 * l.length + 5) + 1) (by omega), atomE]
  split
  · rfl
  split
  · rfl
  split
  · rfl
  split
  · rfl
  · refine bind_eq rfl fun x hx => bind_eq (exP_of ?_) fun _ _ => rfl
    have := needT_lt hx; omega
theorem pkP_eq (w : Nat) (e : Ex) (l : List Tok) : pkP w e l =
    if kindT l = 7 then (exP w l.tail).bind fun x => (smP w [x.1] x.2).bind fun y => (needT 8 y.2).bind fun z =>
      pkP w (.pick ⟨8, 0, 0, 0, y.1.length, [], []⟩ e (Exs.of y.1)) z.2
    else .ok (e, l) := by
  rw [← pkP_of (f := (4 * l.length + 5) + 1) (by omega), picksE]
  split
  · rename_i hk
    have h0 := tail_lt hk (by decide)
    refine bind_eq (exP_of (by omega)) fun x hx => ?_
    have h1 := exP_lt hx
    refine bind_eq (smP_of (by omega)) fun y hy => ?_
    have h2 := smP_le hy
    refine bind_eq rfl fun z hz => ?_
    have h3 := needT_lt hz
    exact pkP_of (by omega)
  · rfl
theorem smP_eq (w : Nat) (b : List Ex) (l : List Tok) : smP w b l =
    if kindT l = 9 then (exP w l.tail).bind fun x => smP w (b ++ [x.1]) x.2 else .ok (b, l) := by
  rw [← smP_of (f := (4 * l.length + 5) + 1) (by omega), semisE]
  split
  · rename_i hk
    have h0 := tail_lt hk (by decide)
    refine bind_eq (exP_of (by omega)) fun x hx => ?_
    have h1 := exP_lt hx
    exact smP_of (by omega)
  · rfl
theorem fnP_eq (w : Nat) (l : List Tok) : fnP w l =
    if kindT l = 11 then (needT 12 l.tail).bind fun x => (needT 4 x.2).bind fun y => .ok ({ aop := 3, af := y.1.fn }, y.2)
    else if kindT l = 20 then .ok ({ aop := 7 }, l.tail)
    else if kindT l = 14 then (bdP (w + 1) 0 [] l.tail).bind fun x => (needT 15 x.2).bind fun y => .ok ({ aop := 6, n := x.1.1, body := x.1.2 }, y.2)
    else (needT 4 l).bind fun x =>
      if kindT x.2 = 13 then .ok ({ aop := 5, af := x.1.fn }, x.2.tail)
      else if kindT x.2 = 12 then (needT 4 x.2.tail).bind fun y => .ok ({ aop := 4, af := x.1.fn, ag := y.1.fn }, y.2)
      else if kindT x.2 = 4 then (match x.2 with
        | t :: r => if t.fn = 33 then .ok ({ aop := 1, af := x.1.fn }, r) else if t.fn = 34 then .ok ({ aop := 2, af := x.1.fn }, r) else .ok ({ aop := 0, af := x.1.fn }, x.2)
        | [] => .ok ({ aop := 0, af := x.1.fn }, x.2))
      else .ok ({ aop := 0, af := x.1.fn }, x.2) := by
  rw [← fnP_of (f := (4 * l.length + 5) + 1) (by omega), funE]
  split
  · rfl
  split
  · rfl
  split
  · rename_i hk
    have h0 := tail_lt hk (by decide)
    exact bind_eq (bdP_of (by omega)) fun _ _ => rfl
  · rfl
theorem bdP_eq (w n : Nat) (b : List Ex) (l : List Tok) : bdP w n b l = (exP w l).bind fun x =>
    if kindT x.2 = 16 then (exP w x.2.tail).bind fun y => (needT 17 y.2).bind fun z => bdP w (n + 1) (b ++ [x.1, y.1]) z.2
    else .ok ((n, b ++ [x.1]), x.2) := by
  rw [← bdP_of (f := (4 * l.length + 5) + 1) (by omega), bodyE]
  refine bind_eq (exP_of (by omega)) fun a ha => ?_
  have h1 := exP_lt ha
  split
  · rename_i hk
    have h0 := tail_lt hk (by decide)
    refine bind_eq (exP_of (by omega)) fun y hy => ?_
    have h2 := exP_lt hy
    refine bind_eq rfl fun z hz => ?_
    have h3 := needT_lt hz
    exact bdP_of (by omega)
  · rfl
/-- a line -/
def linP (l : List Tok) : Except Nat ((Option (List UInt8) × Ex) × List Tok) := match l with
  | t :: u :: r => if t.kind = 3 ∧ u.kind = 10 then (exP 0 r).bind fun x => .ok ((some t.text, x.1), x.2) else (exP 0 l).bind fun x => .ok ((none, x.1), x.2)
  | _ => (exP 0 l).bind fun x => .ok ((none, x.1), x.2)
end Go.Proofs.YtngeooflfkpikaaGreatDoor
namespace Go.Proofs.YtngeooflfkpikaaGreatDoor
/-- a word at which an expression ends -/
def calmK (k : Int) : Prop := k ≠ 1 ∧ k ≠ 4 ∧ k ≠ 7 ∧ k ≠ 9 ∧ k ≠ 11 ∧ k ≠ 12 ∧ k ≠ 13 ∧ k ≠ 14 ∧ k ≠ 16 ∧ k ≠ 20
def Fit (r r' : List Tok) : Prop := calmK (kindT r') ∨ r.head? = r'.head?
abbrev Pars (α : Type) := List Tok → Except Nat (α × List Tok)
/-- what is told where there are no words -/
def Short {α : Type} (p : Except Nat (α × List Tok)) : Prop := p = .error 0 ∨ ∃ x, p = .ok (x, [])
structure Good {α : Type} (p : Pars α) : Prop where
  nil : Short (p [])
  ok : ∀ l x r, p l = .ok (x, r) → ∃ l0, l = l0 ++ r ∧ ∀ r', Fit r r' → p (l0 ++ r') = .ok (x, r')
  err : ∀ l y, p l = .error y → ∃ l0 r, l = l0 ++ r ∧ r.length = y ∧ (0 < y → (∀ r', r.head? = r'.head? → p (l0 ++ r') = .error r'.length) ∧ Short (p l0))
theorem calm_nil : calmK (kindT []) := by simp [calmK, kindT]
theorem kindT_head {l l' : List Tok} (h : l.head? = l'.head?) : kindT l = kindT l' := by
  cases l with
  | nil => cases l' with
    | nil => rfl
    | cons t r => simp at h
  | cons t r => cases l' with
    | nil => simp at h
    | cons t' r' => simp at h; subst h; rfl
theorem startsT_head {w : Nat} {l l' : List Tok} (h : l.head? = l'.head?) : startsT w l = startsT w l' := by
  unfold startsT; rw [kindT_head h]
theorem startsT_calm {w : Nat} {l : List Tok} (h : calmK (kindT l)) : startsT w l = false := by
  unfold startsT
  obtain ⟨_, h4, _, _, h11, _, _, h14, _, h20⟩ := h
  simp [h4, h11, h14, h20]
theorem head_app {l0 r r' : List Tok} (h : r.head? = r'.head?) : (l0 ++ r).head? = (l0 ++ r').head? := by
  cases l0 with
  | nil => exact h
  | cons t l => rfl
theorem Good.pure {α : Type} (x : α) : Good (fun l => .ok (x, l)) where
  nil := .inr ⟨x, rfl⟩
  ok := fun l y r h => by
    injection h with h; injection h with h1 h2; subst h1 h2
    exact ⟨[], rfl, fun r' _ => rfl⟩
  err := fun l y h => by cases h
theorem Good.fail {α : Type} : Good (α := α) (fun l => .error l.length) where
  nil := .inl rfl
  ok := fun l y r h => by cases h
  err := fun l y h => by
    injection h with h
    exact ⟨[], l, rfl, h, fun _ => ⟨fun r' _ => rfl, .inl rfl⟩⟩
/-- the next word, whatever it is -/
def oneT (l : List Tok) : Except Nat (Tok × List Tok) := match l with
  | [] => .error 0
  | t :: r => .ok (t, r)
theorem Good.need (k : Int) : Good (needT k) where
  nil := .inl rfl
  ok := fun l x r h => by
    obtain ⟨rfl, hk⟩ := needT_len h
    exact ⟨[x], rfl, fun r' _ => by show (if x.kind = k then _ else _) = _; rw [if_pos hk]; rfl⟩
  err := fun l y h => by
    cases l with
    | nil => injection h with h; subst h; exact ⟨[], [], rfl, rfl, fun h => absurd h (Nat.lt_irrefl 0)⟩
    | cons t r =>
      refine ⟨[], t :: r, rfl, ?_, fun _ => ⟨fun r' hr' => ?_, .inl rfl⟩⟩
      · change (if t.kind = k then _ else _) = _ at h
        split at h
        · cases h
        · injection h
      · cases r' with
        | nil => simp at hr'
        | cons t' r' =>
          simp at hr'; subst hr'
          change (if t.kind = k then _ else _) = _ at h
          show (if t.kind = k then _ else _) = _
          split at h
          · cases h
          · rename_i hk; rw [if_neg hk]; rfl
theorem Good.one : Good oneT where
  nil := .inl rfl
  ok := fun l x r h => by
    cases l with
    | nil => cases h
    | cons t r' => injection h with h; injection h with h1 h2; subst h1 h2; exact ⟨[t], rfl, fun r' _ => rfl⟩
  err := fun l y h => by
    cases l with
    | nil => injection h with h; subst h; exact ⟨[], [], rfl, rfl, fun h => absurd h (Nat.lt_irrefl 0)⟩
    | cons t r => cases h
theorem Good.bind {α β : Type} {p : Pars α} {q : α → Pars β} (hp : Good p) (hq : ∀ a, Good (q a)) : Good (fun l => (p l).bind fun a => q a.1 a.2) where
  nil := by
    rcases hp.nil with h | ⟨x, h⟩
    · exact .inl (by show (p []).bind _ = _; rw [h]; rfl)
    · show Short ((p []).bind _)
      rw [h]; exact (hq x).nil
  ok := fun l x r h => by
    obtain ⟨⟨a, r1⟩, h1, h2⟩ := bind_ok h
    obtain ⟨l0, rfl, k1⟩ := hp.ok _ _ _ h1
    obtain ⟨l1, rfl, k2⟩ := (hq a).ok _ _ _ h2
    refine ⟨l0 ++ l1, by simp, fun r' hr' => ?_⟩
    show (p (l0 ++ l1 ++ r')).bind _ = _
    have hf : Fit (l1 ++ r) (l1 ++ r') := by
      cases l1 with
      | nil => exact hr'
      | cons t l => exact .inr rfl
    rw [List.append_assoc, k1 _ hf]
    exact k2 r' hr'
  err := fun l y h => by
    cases h1 : p l with
    | error e =>
      have he : e = y := by
        change (p l).bind _ = _ at h
        rw [h1] at h
        injection h
      subst he
      obtain ⟨l0, r, rfl, rfl, k⟩ := hp.err _ _ h1
      refine ⟨l0, r, rfl, rfl, fun hpos => ?_⟩
      obtain ⟨k1, k2⟩ := k hpos
      refine ⟨fun r' hr' => by show (p (l0 ++ r')).bind _ = _; rw [k1 r' hr']; rfl, ?_⟩
      show Short ((p l0).bind _)
      rcases k2 with k2 | ⟨x, k2⟩
      · rw [k2]; exact .inl rfl
      · rw [k2]; exact (hq x).nil
    | ok a =>
      obtain ⟨a, r1⟩ := a
      change (p l).bind _ = _ at h
      rw [h1] at h
      change q a r1 = _ at h
      obtain ⟨l0, rfl, k1⟩ := hp.ok _ _ _ h1
      obtain ⟨l1, r, rfl, rfl, k2⟩ := (hq a).err _ _ h
      refine ⟨l0 ++ l1, r, by simp, rfl, fun hpos => ?_⟩
      obtain ⟨k3, k4⟩ := k2 hpos
      have hf : ∀ r', r.head? = r'.head? → Fit (l1 ++ r) (l1 ++ r') := fun r' h => .inr (head_app h)
      refine ⟨fun r' hr' => ?_, ?_⟩
      · show (p (l0 ++ l1 ++ r')).bind _ = _
        rw [List.append_assoc, k1 _ (hf r' hr')]
        exact k3 r' hr'
      · show Short ((p (l0 ++ l1)).bind _)
        have : Fit (l1 ++ r) l1 := by
          cases l1 with
          | nil => exact .inl calm_nil
          | cons t l => exact .inr rfl
        rw [k1 _ this]
        exact k4
/-- a way that hangs on the next word -/
theorem Good.ite {α : Type} {T : List Tok → Prop} [DecidablePred T] {p q : Pars α} (hT : ∀ l l' : List Tok, l.head? = l'.head? → (T l ↔ T l')) (hc : ∀ l, calmK (kindT l) → ¬ T l) (hp : Good p) (hq : Good q)
    (hlt : ∀ l x, T l → p l = .ok x → x.2.length < l.length) : Good (fun l => if T l then p l else q l) where
  nil := by
    show Short (if T [] then _ else _)
    rw [if_neg (hc _ calm_nil)]; exact hq.nil
  ok := fun l x r h => by
    change (if T l then _ else _) = _ at h
    split at h
    · rename_i ht
      obtain ⟨l0, rfl, k⟩ := hp.ok _ _ _ h
      refine ⟨l0, rfl, fun r' hr' => ?_⟩
      show (if T _ then _ else _) = _
      have h0 : l0 ≠ [] := fun e => by
        subst e
        have := hlt _ _ ht h
        simp at this
      have hh : (l0 ++ r).head? = (l0 ++ r').head? := by
        cases l0 with
        | nil => exact absurd rfl h0
        | cons t l => rfl
      rw [if_pos ((hT _ _ hh).1 ht)]
      exact k r' hr'
    · rename_i ht
      obtain ⟨l0, rfl, k⟩ := hq.ok _ _ _ h
      refine ⟨l0, rfl, fun r' hr' => ?_⟩
      show (if T _ then _ else _) = _
      have : ¬ T (l0 ++ r') := by
        cases l0 with
        | nil =>
          rcases hr' with hr' | hr'
          · exact hc _ hr'
          · exact fun h' => ht ((hT _ _ hr').2 h')
        | cons t l => exact fun h' => ht ((hT (t :: l ++ r) (t :: l ++ r') rfl).2 h')
      rw [if_neg this]
      exact k r' hr'
  err := fun l y h => by
    change (if T l then _ else _) = _ at h
    split at h
    · rename_i ht
      obtain ⟨l0, r, rfl, rfl, k⟩ := hp.err _ _ h
      refine ⟨l0, r, rfl, rfl, fun hpos => ?_⟩
      obtain ⟨k1, k2⟩ := k hpos
      refine ⟨fun r' hr' => ?_, ?_⟩
      · show (if T _ then _ else _) = _
        rw [if_pos ((hT _ _ (head_app hr')).1 ht)]
        exact k1 r' hr'
      · show Short (if T _ then _ else _)
        cases l0 with
        | nil => rw [if_neg (hc _ calm_nil)]; exact hq.nil
        | cons t l => rw [if_pos ((hT (t :: l ++ r) (t :: l) rfl).1 ht)]; exact k2
    · rename_i ht
      obtain ⟨l0, r, rfl, rfl, k⟩ := hq.err _ _ h
      refine ⟨l0, r, rfl, rfl, fun hpos => ?_⟩
      obtain ⟨k1, k2⟩ := k hpos
      refine ⟨fun r' hr' => ?_, ?_⟩
      · show (if T _ then _ else _) = _
        rw [if_neg fun h' => ht ((hT _ _ (head_app hr')).2 h')]
        exact k1 r' hr'
      · show Short (if T _ then _ else _)
        cases l0 with
        | nil => rw [if_neg (hc _ calm_nil)]; exact hq.nil
        | cons t l => rw [if_neg fun h' => ht ((hT (t :: l ++ r) (t :: l) rfl).2 h')]; exact k2
/-- .. where the other way begins with a word, too -/
theorem Good.iteN {α : Type} {T : List Tok → Prop} [DecidablePred T] {p q : Pars α} (hT : ∀ l l' : List Tok, l.head? = l'.head? → (T l ↔ T l')) (hn : ¬ T []) (hp : Good p) (hq : Good q)
    (hlt : ∀ l x, T l → p l = .ok x → x.2.length < l.length) (hlq : ∀ l x, q l = .ok x → x.2.length < l.length) : Good (fun l => if T l then p l else q l) where
  nil := by
    show Short (if T [] then _ else _)
    rw [if_neg hn]; exact hq.nil
  ok := fun l x r h => by
    change (if T l then _ else _) = _ at h
    split at h
    · rename_i ht
      obtain ⟨l0, rfl, k⟩ := hp.ok _ _ _ h
      refine ⟨l0, rfl, fun r' hr' => ?_⟩
      show (if T _ then _ else _) = _
      have h0 : l0 ≠ [] := fun e => by
        subst e
        have := hlt _ _ ht h
        simp at this
      have hh : (l0 ++ r).head? = (l0 ++ r').head? := by
        cases l0 with
        | nil => exact absurd rfl h0
        | cons t l => rfl
      rw [if_pos ((hT _ _ hh).1 ht)]
      exact k r' hr'
    · rename_i ht
      obtain ⟨l0, rfl, k⟩ := hq.ok _ _ _ h
      refine ⟨l0, rfl, fun r' hr' => ?_⟩
      show (if T _ then _ else _) = _
      have h0 : l0 ≠ [] := fun e => by
        subst e
        have := hlq _ _ h
        simp at this
      have hh : (l0 ++ r).head? = (l0 ++ r').head? := by
        cases l0 with
        | nil => exact absurd rfl h0
        | cons t l => rfl
      rw [if_neg fun h' => ht ((hT _ _ hh).2 h')]
      exact k r' hr'
  err := fun l y h => by
    change (if T l then _ else _) = _ at h
    split at h
    · rename_i ht
      obtain ⟨l0, r, rfl, rfl, k⟩ := hp.err _ _ h
      refine ⟨l0, r, rfl, rfl, fun hpos => ?_⟩
      obtain ⟨k1, k2⟩ := k hpos
      refine ⟨fun r' hr' => ?_, ?_⟩
      · show (if T _ then _ else _) = _
        rw [if_pos ((hT _ _ (head_app hr')).1 ht)]
        exact k1 r' hr'
      · show Short (if T _ then _ else _)
        cases l0 with
        | nil => rw [if_neg hn]; exact hq.nil
        | cons t l => rw [if_pos ((hT (t :: l ++ r) (t :: l) rfl).1 ht)]; exact k2
    · rename_i ht
      obtain ⟨l0, r, rfl, rfl, k⟩ := hq.err _ _ h
      refine ⟨l0, r, rfl, rfl, fun hpos => ?_⟩
      obtain ⟨k1, k2⟩ := k hpos
      refine ⟨fun r' hr' => ?_, ?_⟩
      · show (if T _ then _ else _) = _
        rw [if_neg fun h' => ht ((hT _ _ (head_app hr')).2 h')]
        exact k1 r' hr'
      · show Short (if T _ then _ else _)
        cases l0 with
        | nil => rw [if_neg hn]; exact hq.nil
        | cons t l => rw [if_neg fun h' => ht ((hT (t :: l ++ r) (t :: l) rfl).2 h')]; exact k2
theorem mem_tw {α : Type} {p : α → Bool} {t : α} : ∀ {l : List α}, t ∈ l.takeWhile p → p t = true
  | [], h => by simp at h
  | x :: l, h => by
    by_cases hx : p x = true
    · rw [List.takeWhile_cons_of_pos hx] at h
      rcases List.mem_cons.1 h with rfl | h
      · exact hx
      · exact mem_tw h
    · rw [List.takeWhile_cons_of_neg hx] at h
      simp at h
/-- numbers, one behind the other -/
theorem Good.nums {α : Type} (g : List Tok → α) : Good (fun l => .ok (g (l.takeWhile isNumK), l.dropWhile isNumK)) where
  nil := .inr ⟨_, rfl⟩
  ok := fun l x r h => by
    injection h with h; injection h with h1 h2; subst h1 h2
    refine ⟨l.takeWhile isNumK, List.takeWhile_append_dropWhile.symm, fun r' hr' => ?_⟩
    have hn : ∀ t, r'.head? = some t → isNumK t = false := fun t ht => by
      rcases hr' with hr' | hr'
      · cases r' with
        | nil => simp at ht
        | cons u r' =>
          simp at ht; subst ht
          exact decide_eq_false hr'.1
      · rw [ht] at hr'
        have := List.head?_dropWhile_not isNumK l
        rw [hr'] at this
        exact this
    have hall : ∀ t ∈ l.takeWhile isNumK, isNumK t = true := fun t ht => mem_tw ht
    have h1 : (l.takeWhile isNumK ++ r').takeWhile isNumK = l.takeWhile isNumK := by
      rw [List.takeWhile_append_of_pos hall]
      cases r' with
      | nil => simp
      | cons u r' => rw [List.takeWhile_cons_of_neg (by rw [hn u rfl]; simp)]; simp
    have h2 : (l.takeWhile isNumK ++ r').dropWhile isNumK = r' := by
      rw [List.dropWhile_append_of_pos hall]
      cases r' with
      | nil => rfl
      | cons u r' => rw [List.dropWhile_cons_of_neg (by rw [hn u rfl]; simp)]
    show Except.ok (g _, _) = _
    rw [h1, h2]
  err := fun l y h => by cases h
theorem Good.congr {α : Type} {p q : Pars α} (h : ∀ l, p l = q l) (g : Good q) : Good p := by
  have : p = q := funext h
  rw [this]; exact g
theorem kind_dec (k : Int) (l l' : List Tok) (h : l.head? = l'.head?) : (kindT l = k ↔ kindT l' = k) := by rw [kindT_head h]
theorem one_of {α : Type} {l : List Tok} {k : Int} (hk : kindT l = k) (h0 : k ≠ 0) (F : List Tok → Except Nat α) : F l.tail = (oneT l).bind fun t => F t.2 := by
  cases l with
  | nil => exact absurd hk.symm h0
  | cons t r => rfl
structure GoodF (f : Nat) : Prop where
  ex : ∀ w, Good (exprE f w)
  at' : ∀ w, Good (atomE f w)
  pk : ∀ w e, Good (picksE f w e)
  sm : ∀ w b, Good (semisE f w b)
  fn : ∀ w, Good (funE f w)
  bd : ∀ w n b, Good (bodyE f w n b)
theorem oneT_lt {l : List Tok} {x : Tok × List Tok} (h : oneT l = .ok x) : x.2.length < l.length := by
  cases l with
  | nil => cases h
  | cons t r => injection h with h; subst h; simp
/-- a glyph that is a function of this number -/
def isFn (k : Int) (l : List Tok) : Prop := match l with
  | [] => False
  | t :: _ => t.kind = 4 ∧ t.fn = k
instance (k : Int) : DecidablePred (isFn k) := fun l => match l with
  | [] => isFalse (fun h => h)
  | t :: _ => inferInstanceAs (Decidable (t.kind = 4 ∧ t.fn = k))
theorem isFn_head (k : Int) (l l' : List Tok) (h : l.head? = l'.head?) : isFn k l ↔ isFn k l' := by
  cases l with
  | nil => cases l' with
    | nil => exact Iff.rfl
    | cons t r => simp at h
  | cons t r => cases l' with
    | nil => simp at h
    | cons t' r' => simp at h; subst h; exact Iff.rfl
theorem isFn_calm (k : Int) (l : List Tok) (h : calmK (kindT l)) : ¬ isFn k l := by
  cases l with
  | nil => exact fun h => h
  | cons t r => exact fun h' => h.2.1 h'.1
theorem goodF : ∀ f, GoodF f
  | 0 => ⟨fun _ => .congr (fun l => by rw [exprE]) .fail, fun _ => .congr (fun l => by rw [atomE]) .fail, fun _ _ => .congr (fun l => by rw [picksE]) .fail, fun _ _ => .congr (fun l => by rw [semisE]) .fail, fun _ => .congr (fun l => by rw [funE]) .fail, fun _ _ _ => .congr (fun l => by rw [bodyE]) .fail⟩
  | f + 1 => by
    have ih := goodF f
    have ln := lenP f
    refine ⟨fun w => ?_, fun w => ?_, fun w e => ?_, fun w b => ?_, fun w => ?_, fun w n b => ?_⟩
    · refine .congr (q := fun l => if startsT w l = true then (funE f w l).bind fun g => (exprE f w g.2).bind fun r => .ok (.one (g.1.node 6) (Exs.of g.1.body) r.1, r.2)
        else (atomE f w l).bind fun a => (picksE f w a.1 a.2).bind fun e =>
          if startsT w e.2 = true then (funE f w e.2).bind fun g => (exprE f w g.2).bind fun r => .ok (.two (g.1.node 7) e.1 (Exs.of g.1.body) r.1, r.2)
          else .ok (e.1, e.2)) (fun l => by rw [exprE]) (.iteN (T := fun l => startsT w l = true) (fun l l' h => by rw [startsT_head h]) (by rw [startsT_calm calm_nil]; simp) ((ih.fn w).bind (q := fun g l => (exprE f w l).bind fun r => .ok (Ex.one (g.node 6) (Exs.of g.body) r.1, r.2)) fun g => (ih.ex w).bind (q := fun r l => .ok (Ex.one (g.node 6) (Exs.of g.body) r, l)) fun r => .pure _) ?_ (fun l x _ hx => ?_) (fun l x hx => ?_))
      · refine (ih.at' w).bind (q := fun a l => (picksE f w a l).bind fun e => if startsT w e.2 = true then (funE f w e.2).bind fun g => (exprE f w g.2).bind fun r => .ok (.two (g.1.node 7) e.1 (Exs.of g.1.body) r.1, r.2)
          else .ok (e.1, e.2)) fun a => (ih.pk w a).bind (q := fun e l => if startsT w l = true then (funE f w l).bind fun g => (exprE f w g.2).bind fun r => .ok (.two (g.1.node 7) e (Exs.of g.1.body) r.1, r.2)
          else .ok (e, l)) fun e => .ite (T := fun l => startsT w l = true) (fun l l' h => by rw [startsT_head h]) (fun l hl => by rw [startsT_calm hl]; simp) ((ih.fn w).bind (q := fun g l => (exprE f w l).bind fun r => .ok (Ex.two (g.node 7) e (Exs.of g.body) r.1, r.2)) fun g => (ih.ex w).bind (q := fun r l => .ok (Ex.two (g.node 7) e (Exs.of g.body) r, l)) fun r => .pure _) (.pure _) (fun l x _ hx => ?_)
        obtain ⟨g, hg, hx⟩ := bind_ok hx
        obtain ⟨r, hr, hx⟩ := bind_ok hx
        injection hx with hx; subst hx
        have := ln.fn _ _ _ hg; have := ln.ex _ _ _ hr
        show r.2.length < _
        omega
      · obtain ⟨g, hg, hx⟩ := bind_ok hx
        obtain ⟨r, hr, hx⟩ := bind_ok hx
        injection hx with hx; subst hx
        have := ln.fn _ _ _ hg; have := ln.ex _ _ _ hr
        show r.2.length < _
        omega
      · obtain ⟨a, ha, hx⟩ := bind_ok hx
        obtain ⟨e, he, hx⟩ := bind_ok hx
        have := ln.at' _ _ _ ha; have := ln.pk _ _ _ _ he
        try dsimp only at hx
        split at hx
        · obtain ⟨g, hg, hx⟩ := bind_ok hx
          obtain ⟨r, hr, hx⟩ := bind_ok hx
          injection hx with hx; subst hx
          have := ln.fn _ _ _ hg; have := ln.ex _ _ _ hr
          show r.2.length < _
          omega
        · injection hx with hx; subst hx
          show e.2.length < _
          omega
    · refine .congr (q := fun l => if kindT l = 1 then .ok (.leaf ⟨1, 0, 0, 0, 0, (l.takeWhile isNumK).map (·.num), []⟩, l.dropWhile isNumK)
        else if kindT l = 2 then (needT 2 l).bind fun x => .ok (.leaf ⟨2, 0, 0, 0, 0, [], x.1.text⟩, x.2)
        else if kindT l = 3 then (needT 3 l).bind fun x => .ok (.leaf ⟨3, 0, 0, 0, 0, [], x.1.text⟩, x.2)
        else if kindT l = 18 ∨ kindT l = 19 then (if w = 0 then .error l.length else (oneT l).bind fun t => .ok (.leaf ⟨if t.1.kind = 18 then 4 else 5, 0, 0, 0, 0, [], []⟩, t.2))
        else (needT 5 l).bind fun x => (exprE f w x.2).bind fun e => (needT 6 e.2).bind fun y => .ok (e.1, y.2)) (fun l => ?_) ?_
      · rw [atomE]
        split
        · rfl
        split
        · rfl
        split
        · rfl
        split
        · rename_i h
          cases l with
          | nil => simp [kindT] at h
          | cons t r => rfl
        · rfl
      · have k0 : ∀ k : Int, k ≠ 0 → ¬ kindT [] = k := fun k h e => h e.symm
        have l5 : ∀ (l : List Tok) x, ((needT 5 l).bind fun x => (exprE f w x.2).bind fun e => (needT 6 e.2).bind fun y => .ok (e.1, y.2)) = .ok x → x.2.length < l.length := fun l x hx => by
          obtain ⟨a, ha, hx⟩ := bind_ok hx
          obtain ⟨e, he, hx⟩ := bind_ok hx
          obtain ⟨y, hy, hx⟩ := bind_ok hx
          injection hx with hx; subst hx
          have := needT_lt ha; have := ln.ex _ _ _ he; have := needT_lt hy
          show y.2.length < _
          omega
        have l4 : ∀ (l : List Tok) x, (if w = 0 then (.error l.length : Except Nat (Ex × List Tok)) else (oneT l).bind fun t => .ok (.leaf ⟨if t.1.kind = 18 then 4 else 5, 0, 0, 0, 0, [], []⟩, t.2)) = .ok x → x.2.length < l.length := fun l x hx => by
          split at hx
          · cases hx
          · obtain ⟨a, ha, hx⟩ := bind_ok hx
            injection hx with hx; subst hx
            exact oneT_lt ha
        have lk : ∀ (k : Int) (G : Tok → Ex) (l : List Tok) x, ((needT k l).bind fun x => (.ok (G x.1, x.2) : Except Nat (Ex × List Tok))) = .ok x → x.2.length < l.length := fun k G l x hx => by
          obtain ⟨a, ha, hx⟩ := bind_ok hx
          injection hx with hx; subst hx
          have := needT_lt ha
          show a.2.length < _
          omega
        have g5 : Good (fun l => (needT 5 l).bind fun x => (exprE f w x.2).bind fun e => (needT 6 e.2).bind fun y => .ok (e.1, y.2)) := (Good.need 5).bind (q := fun _ l => (exprE f w l).bind fun e => (needT 6 e.2).bind fun y => .ok (e.1, y.2)) fun a => (ih.ex w).bind (q := fun e l => (needT 6 l).bind fun y => .ok (e, y.2)) fun e => (Good.need 6).bind (q := fun y l => .ok (e, l)) fun y => .pure _
        have g4 : Good (fun l => if w = 0 then (.error l.length : Except Nat (Ex × List Tok)) else (oneT l).bind fun t => .ok (.leaf ⟨if t.1.kind = 18 then 4 else 5, 0, 0, 0, 0, [], []⟩, t.2)) := by
          by_cases h : w = 0
          · exact .congr (fun l => by rw [if_pos h]) .fail
          · exact .congr (fun l => by rw [if_neg h]) (Good.one.bind (q := fun t l => .ok (.leaf ⟨if t.kind = 18 then 4 else 5, 0, 0, 0, 0, [], []⟩, l)) fun t => .pure _)
        have ga : Good (fun l => if kindT l = 18 ∨ kindT l = 19 then (if w = 0 then .error l.length else (oneT l).bind fun t => .ok (.leaf ⟨if t.1.kind = 18 then 4 else 5, 0, 0, 0, 0, [], []⟩, t.2))
            else (needT 5 l).bind fun x => (exprE f w x.2).bind fun e => (needT 6 e.2).bind fun y => .ok (e.1, y.2)) := .iteN (T := fun l => kindT l = 18 ∨ kindT l = 19) (fun l l' h => by rw [kindT_head h]) (by simp [kindT]) g4 g5 (fun l x _ => l4 l x) l5
        have la : ∀ (l : List Tok) x, (if kindT l = 18 ∨ kindT l = 19 then (if w = 0 then .error l.length else (oneT l).bind fun t => .ok (.leaf ⟨if t.1.kind = 18 then 4 else 5, 0, 0, 0, 0, [], []⟩, t.2))
            else (needT 5 l).bind fun x => (exprE f w x.2).bind fun e => (needT 6 e.2).bind fun y => .ok (e.1, y.2)) = .ok x → x.2.length < l.length := fun l x hx => by
          split at hx
          · exact l4 l x hx
          · exact l5 l x hx
        have g3 := Good.iteN (T := fun l => kindT l = 3) (kind_dec 3) (k0 3 (by decide)) ((Good.need 3).bind (q := fun t l => .ok (Ex.leaf ⟨3, 0, 0, 0, 0, [], t.text⟩, l)) fun t => .pure _) ga (fun l x _ => lk 3 (fun t => .leaf ⟨3, 0, 0, 0, 0, [], t.text⟩) l x) la
        have l3 : ∀ (l : List Tok) x, (if kindT l = 3 then (needT 3 l).bind fun x => .ok (Ex.leaf ⟨3, 0, 0, 0, 0, [], x.1.text⟩, x.2) else if kindT l = 18 ∨ kindT l = 19 then (if w = 0 then .error l.length else (oneT l).bind fun t => .ok (.leaf ⟨if t.1.kind = 18 then 4 else 5, 0, 0, 0, 0, [], []⟩, t.2))
            else (needT 5 l).bind fun x => (exprE f w x.2).bind fun e => (needT 6 e.2).bind fun y => .ok (e.1, y.2)) = .ok x → x.2.length < l.length := fun l x hx => by
          split at hx
          · exact lk 3 (fun t => .leaf ⟨3, 0, 0, 0, 0, [], t.text⟩) l x hx
          · exact la l x hx
        have g2 := Good.iteN (T := fun l => kindT l = 2) (kind_dec 2) (k0 2 (by decide)) ((Good.need 2).bind (q := fun t l => .ok (Ex.leaf ⟨2, 0, 0, 0, 0, [], t.text⟩, l)) fun t => .pure _) g3 (fun l x _ => lk 2 (fun t => .leaf ⟨2, 0, 0, 0, 0, [], t.text⟩) l x) l3
        refine Good.iteN (T := fun l => kindT l = 1) (kind_dec 1) (k0 1 (by decide)) (Good.nums fun ts => Ex.leaf ⟨1, 0, 0, 0, 0, ts.map (·.num), []⟩) g2 (fun l x hl hx => ?_) (fun l x hx => ?_)
        · injection hx with hx; subst hx
          cases l with
          | nil => simp [kindT] at hl
          | cons t r =>
            have hk' : isNumK t = true := decide_eq_true hl
            show ((t :: r).dropWhile isNumK).length < _
            rw [List.dropWhile_cons_of_pos hk']
            have := (List.dropWhile_suffix (l := r) isNumK).length_le
            simp only [List.length_cons]
            omega
        · split at hx
          · exact lk 2 (fun t => .leaf ⟨2, 0, 0, 0, 0, [], t.text⟩) l x hx
          · exact l3 l x hx
    · refine .congr (q := fun l => if kindT l = 7 then (oneT l).bind fun t => (exprE f w t.2).bind fun x => (semisE f w [x.1] x.2).bind fun y => (needT 8 y.2).bind fun z =>
          picksE f w (.pick ⟨8, 0, 0, 0, y.1.length, [], []⟩ e (Exs.of y.1)) z.2 else .ok (e, l)) (fun l => ?_) ?_
      · rw [picksE]
        split
        · rename_i h
          exact one_of h (by decide) (fun l => (exprE f w l).bind fun x => (semisE f w [x.1] x.2).bind fun y => (needT 8 y.2).bind fun z => picksE f w (.pick ⟨8, 0, 0, 0, y.1.length, [], []⟩ e (Exs.of y.1)) z.2)
        · rfl
      · refine Good.ite (T := fun l => kindT l = 7) (kind_dec 7) (fun l h => h.2.2.1) (Good.one.bind (q := fun _ l => (exprE f w l).bind fun x => (semisE f w [x.1] x.2).bind fun y => (needT 8 y.2).bind fun z => picksE f w (.pick ⟨8, 0, 0, 0, y.1.length, [], []⟩ e (Exs.of y.1)) z.2) fun _ => (ih.ex w).bind (q := fun x l => (semisE f w [x] l).bind fun y => (needT 8 y.2).bind fun z => picksE f w (.pick ⟨8, 0, 0, 0, y.1.length, [], []⟩ e (Exs.of y.1)) z.2) fun x => (ih.sm w [x]).bind (q := fun y l => (needT 8 l).bind fun z => picksE f w (.pick ⟨8, 0, 0, 0, y.length, [], []⟩ e (Exs.of y)) z.2) fun y => (Good.need 8).bind (q := fun _ l => picksE f w (.pick ⟨8, 0, 0, 0, y.length, [], []⟩ e (Exs.of y)) l) fun _ => ih.pk w _) (.pure _) (fun l x _ hx => ?_)
        obtain ⟨o, ho, hx⟩ := bind_ok hx
        obtain ⟨a, ha, hx⟩ := bind_ok hx
        obtain ⟨y, hy, hx⟩ := bind_ok hx
        obtain ⟨z, hz, hx⟩ := bind_ok hx
        have := oneT_lt ho; have := ln.ex _ _ _ ha; have := ln.sm _ _ _ _ hy; have := needT_lt hz; have := ln.pk _ _ _ _ hx
        omega
    · refine .congr (q := fun l => if kindT l = 9 then (oneT l).bind fun t => (exprE f w t.2).bind fun x => semisE f w (b ++ [x.1]) x.2 else .ok (b, l)) (fun l => ?_) ?_
      · rw [semisE]
        split
        · rename_i h
          exact one_of h (by decide) (fun l => (exprE f w l).bind fun x => semisE f w (b ++ [x.1]) x.2)
        · rfl
      · refine Good.ite (T := fun l => kindT l = 9) (kind_dec 9) (fun l h => h.2.2.2.1) (Good.one.bind (q := fun _ l => (exprE f w l).bind fun x => semisE f w (b ++ [x.1]) x.2) fun _ => (ih.ex w).bind (q := fun x l => semisE f w (b ++ [x]) l) fun x => ih.sm w _) (.pure _) (fun l x _ hx => ?_)
        obtain ⟨o, ho, hx⟩ := bind_ok hx
        obtain ⟨a, ha, hx⟩ := bind_ok hx
        have := oneT_lt ho; have := ln.ex _ _ _ ha; have := ln.sm _ _ _ _ hx
        omega
    · refine .congr (q := fun l => if kindT l = 11 then (oneT l).bind fun o => (needT 12 o.2).bind fun x => (needT 4 x.2).bind fun y => .ok ({ aop := 3, af := y.1.fn }, y.2)
        else if kindT l = 20 then (oneT l).bind fun o => .ok ({ aop := 7 }, o.2)
        else if kindT l = 14 then (oneT l).bind fun o => (bodyE f (w + 1) 0 [] o.2).bind fun x => (needT 15 x.2).bind fun y => .ok ({ aop := 6, n := x.1.1, body := x.1.2 }, y.2)
        else (needT 4 l).bind fun x =>
          if kindT x.2 = 13 then (oneT x.2).bind fun o => .ok ({ aop := 5, af := x.1.fn }, o.2)
          else if kindT x.2 = 12 then (oneT x.2).bind fun o => (needT 4 o.2).bind fun y => .ok ({ aop := 4, af := x.1.fn, ag := y.1.fn }, y.2)
          else if isFn 33 x.2 then (oneT x.2).bind fun o => .ok ({ aop := 1, af := x.1.fn }, o.2)
          else if isFn 34 x.2 then (oneT x.2).bind fun o => .ok ({ aop := 2, af := x.1.fn }, o.2)
          else .ok ({ aop := 0, af := x.1.fn }, x.2)) (fun l => ?_) ?_
      · rw [funE]
        split
        · rename_i h
          exact one_of h (by decide) (fun l => (needT 12 l).bind fun x => (needT 4 x.2).bind fun y => .ok (({ aop := 3, af := y.1.fn } : FunE), y.2))
        split
        · rename_i h
          exact one_of h (by decide) (fun l => .ok (({ aop := 7 } : FunE), l))
        split
        · rename_i h
          exact one_of h (by decide) (fun l => (bodyE f (w + 1) 0 [] l).bind fun x => (needT 15 x.2).bind fun y => .ok (({ aop := 6, n := x.1.1, body := x.1.2 } : FunE), y.2))
        · refine bind_eq rfl fun x _ => ?_
          split
          · rename_i h
            exact one_of h (by decide) (fun l => .ok (({ aop := 5, af := x.1.fn } : FunE), l))
          split
          · rename_i h
            exact one_of h (by decide) (fun l => (needT 4 l).bind fun y => .ok (({ aop := 4, af := x.1.fn, ag := y.1.fn } : FunE), y.2))
          obtain ⟨t, l⟩ := x
          dsimp only
          cases l with
          | nil => rfl
          | cons u r =>
            by_cases h4 : u.kind = 4
            · refine (if_pos h4).trans ?_
              by_cases h33 : u.fn = 33
              · exact (if_pos h33).trans (if_pos (show isFn 33 (u :: r) from ⟨h4, h33⟩)).symm
              · refine (if_neg h33).trans (Eq.trans ?_ (if_neg (show ¬ isFn 33 (u :: r) from fun h => h33 h.2)).symm)
                by_cases h34 : u.fn = 34
                · exact (if_pos h34).trans (if_pos (show isFn 34 (u :: r) from ⟨h4, h34⟩)).symm
                · exact (if_neg h34).trans (if_neg (show ¬ isFn 34 (u :: r) from fun h => h34 h.2)).symm
            · refine (if_neg h4).trans ?_
              exact ((if_neg (show ¬ isFn 33 (u :: r) from fun h => h4 h.1)).trans (if_neg (show ¬ isFn 34 (u :: r) from fun h => h4 h.1))).symm
      · have k0 : ∀ k : Int, k ≠ 0 → ¬ kindT [] = k := fun k h e => h e.symm
        have lo : ∀ {α : Type} (G : Tok → α) (l : List Tok) x, ((oneT l).bind fun o => (.ok (G o.1, o.2) : Except Nat (α × List Tok))) = .ok x → x.2.length < l.length := fun G l x hx => by
          obtain ⟨a, ha, hx⟩ := bind_ok hx
          injection hx with hx; subst hx
          exact oneT_lt ha
        have gm : Good (fun l => (needT 4 l).bind fun x =>
          if kindT x.2 = 13 then (oneT x.2).bind fun o => .ok (({ aop := 5, af := x.1.fn } : FunE), o.2)
          else if kindT x.2 = 12 then (oneT x.2).bind fun o => (needT 4 o.2).bind fun y => .ok ({ aop := 4, af := x.1.fn, ag := y.1.fn }, y.2)
          else if isFn 33 x.2 then (oneT x.2).bind fun o => .ok ({ aop := 1, af := x.1.fn }, o.2)
          else if isFn 34 x.2 then (oneT x.2).bind fun o => .ok ({ aop := 2, af := x.1.fn }, o.2)
          else .ok ({ aop := 0, af := x.1.fn }, x.2)) := by
          refine (Good.need 4).bind (q := fun t l => if kindT l = 13 then (oneT l).bind fun o => .ok (({ aop := 5, af := t.fn } : FunE), o.2)
            else if kindT l = 12 then (oneT l).bind fun o => (needT 4 o.2).bind fun y => .ok ({ aop := 4, af := t.fn, ag := y.1.fn }, y.2)
            else if isFn 33 l then (oneT l).bind fun o => .ok ({ aop := 1, af := t.fn }, o.2)
            else if isFn 34 l then (oneT l).bind fun o => .ok ({ aop := 2, af := t.fn }, o.2)
            else .ok ({ aop := 0, af := t.fn }, l)) fun t => ?_
          refine .ite (T := fun l => kindT l = 13) (kind_dec 13) (fun l h => h.2.2.2.2.2.2.1) (Good.one.bind (q := fun _ l => .ok (({ aop := 5, af := t.fn } : FunE), l)) fun _ => .pure _) ?_ (fun l x _ => lo (fun _ => ({ aop := 5, af := t.fn } : FunE)) l x)
          refine .ite (T := fun l => kindT l = 12) (kind_dec 12) (fun l h => h.2.2.2.2.2.1) (Good.one.bind (q := fun _ l => (needT 4 l).bind fun y => .ok (({ aop := 4, af := t.fn, ag := y.1.fn } : FunE), y.2)) fun _ => (Good.need 4).bind (q := fun y l => .ok (({ aop := 4, af := t.fn, ag := y.fn } : FunE), l)) fun _ => .pure _) ?_ (fun l x _ hx => ?_)
          · refine .ite (T := isFn 33) (isFn_head 33) (isFn_calm 33) (Good.one.bind (q := fun _ l => .ok (({ aop := 1, af := t.fn } : FunE), l)) fun _ => .pure _) ?_ (fun l x _ => lo (fun _ => ({ aop := 1, af := t.fn } : FunE)) l x)
            exact .ite (T := isFn 34) (isFn_head 34) (isFn_calm 34) (Good.one.bind (q := fun _ l => .ok (({ aop := 2, af := t.fn } : FunE), l)) fun _ => .pure _) (.pure _) (fun l x _ => lo (fun _ => ({ aop := 2, af := t.fn } : FunE)) l x)
          · obtain ⟨a, ha, hx⟩ := bind_ok hx
            obtain ⟨y, hy, hx⟩ := bind_ok hx
            injection hx with hx; subst hx
            have := oneT_lt ha; have := needT_lt hy
            show y.2.length < _
            omega
        have lm : ∀ (l : List Tok) x, ((needT 4 l).bind fun x =>
          if kindT x.2 = 13 then (oneT x.2).bind fun o => .ok (({ aop := 5, af := x.1.fn } : FunE), o.2)
          else if kindT x.2 = 12 then (oneT x.2).bind fun o => (needT 4 o.2).bind fun y => .ok ({ aop := 4, af := x.1.fn, ag := y.1.fn }, y.2)
          else if isFn 33 x.2 then (oneT x.2).bind fun o => .ok ({ aop := 1, af := x.1.fn }, o.2)
          else if isFn 34 x.2 then (oneT x.2).bind fun o => .ok ({ aop := 2, af := x.1.fn }, o.2)
          else .ok ({ aop := 0, af := x.1.fn }, x.2)) = .ok x → x.2.length < l.length := fun l x hx => by
          obtain ⟨a, ha, hx⟩ := bind_ok hx
          have h1 := needT_lt ha
          split at hx
          · have := lo (fun _ => ({ aop := 5, af := a.1.fn } : FunE)) _ _ hx; omega
          split at hx
          · obtain ⟨b, hb, hx⟩ := bind_ok hx
            obtain ⟨y, hy, hx⟩ := bind_ok hx
            injection hx with hx; subst hx
            have := oneT_lt hb; have := needT_lt hy
            show y.2.length < _
            omega
          split at hx
          · have := lo (fun _ => ({ aop := 1, af := a.1.fn } : FunE)) _ _ hx; omega
          split at hx
          · have := lo (fun _ => ({ aop := 2, af := a.1.fn } : FunE)) _ _ hx; omega
          · injection hx with hx; subst hx
            show a.2.length < _
            omega
        have g14 : Good (fun l => (oneT l).bind fun o => (bodyE f (w + 1) 0 [] o.2).bind fun x => (needT 15 x.2).bind fun y => .ok (({ aop := 6, n := x.1.1, body := x.1.2 } : FunE), y.2)) :=
          Good.one.bind (q := fun _ l => (bodyE f (w + 1) 0 [] l).bind fun x => (needT 15 x.2).bind fun y => .ok (({ aop := 6, n := x.1.1, body := x.1.2 } : FunE), y.2)) fun _ => (ih.bd (w + 1) 0 []).bind (q := fun x l => (needT 15 l).bind fun y => .ok (({ aop := 6, n := x.1, body := x.2 } : FunE), y.2)) fun x => (Good.need 15).bind (q := fun _ l => .ok (({ aop := 6, n := x.1, body := x.2 } : FunE), l)) fun _ => .pure _
        have l14 : ∀ (l : List Tok) x, ((oneT l).bind fun o => (bodyE f (w + 1) 0 [] o.2).bind fun x => (needT 15 x.2).bind fun y => .ok (({ aop := 6, n := x.1.1, body := x.1.2 } : FunE), y.2)) = .ok x → x.2.length < l.length := fun l x hx => by
          obtain ⟨o, ho, hx⟩ := bind_ok hx
          obtain ⟨b, hb, hx⟩ := bind_ok hx
          obtain ⟨y, hy, hx⟩ := bind_ok hx
          injection hx with hx; subst hx
          have := oneT_lt ho; have := ln.bd _ _ _ _ _ hb; have := needT_lt hy
          show y.2.length < _
          omega
        have g3 := Good.iteN (T := fun l => kindT l = 14) (kind_dec 14) (k0 14 (by decide)) g14 gm (fun l x _ => l14 l x) lm
        have g2 := Good.iteN (T := fun l => kindT l = 20) (kind_dec 20) (k0 20 (by decide)) (Good.one.bind (q := fun _ l => .ok (({ aop := 7 } : FunE), l)) fun _ => .pure _) g3 (fun l x _ => lo (fun _ => ({ aop := 7 } : FunE)) l x) (fun l x hx => by
          try dsimp only at hx
          split at hx
          · exact l14 l x hx
          · exact lm l x hx)
        refine Good.iteN (T := fun l => kindT l = 11) (kind_dec 11) (k0 11 (by decide)) (Good.one.bind (q := fun _ l => (needT 12 l).bind fun x => (needT 4 x.2).bind fun y => .ok (({ aop := 3, af := y.1.fn } : FunE), y.2)) fun _ => (Good.need 12).bind (q := fun _ l => (needT 4 l).bind fun y => .ok (({ aop := 3, af := y.1.fn } : FunE), y.2)) fun _ => (Good.need 4).bind (q := fun y l => .ok (({ aop := 3, af := y.fn } : FunE), l)) fun _ => .pure _) g2 (fun l x _ hx => ?_) (fun l x hx => ?_)
        · obtain ⟨o, ho, hx⟩ := bind_ok hx
          obtain ⟨b, hb, hx⟩ := bind_ok hx
          obtain ⟨y, hy, hx⟩ := bind_ok hx
          injection hx with hx; subst hx
          have := oneT_lt ho; have := needT_lt hb; have := needT_lt hy
          show y.2.length < _
          omega
        · try dsimp only at hx
          split at hx
          · exact lo (fun _ => ({ aop := 7 } : FunE)) l x hx
          split at hx
          · exact l14 l x hx
          · exact lm l x hx
    · refine .congr (q := fun l => (exprE f w l).bind fun x => (if kindT x.2 = 16 then (oneT x.2).bind fun t => (exprE f w t.2).bind fun y => (needT 17 y.2).bind fun z => bodyE f w (n + 1) (b ++ [x.1, y.1]) z.2 else .ok ((n, b ++ [x.1]), x.2))) (fun l => ?_) ?_
      · rw [bodyE]
        refine bind_eq rfl fun x hx => ?_
        split
        · rename_i h
          exact one_of h (by decide) (fun l => (exprE f w l).bind fun y => (needT 17 y.2).bind fun z => bodyE f w (n + 1) (b ++ [x.1, y.1]) z.2)
        · rfl
      · refine (ih.ex w).bind (q := fun x l => if kindT l = 16 then (oneT l).bind fun t => (exprE f w t.2).bind fun y => (needT 17 y.2).bind fun z => bodyE f w (n + 1) (b ++ [x, y.1]) z.2 else .ok ((n, b ++ [x]), l)) fun x => ?_
        refine Good.ite (T := fun l => kindT l = 16) (kind_dec 16) (fun l h => h.2.2.2.2.2.2.2.2.1) (Good.one.bind (q := fun _ l => (exprE f w l).bind fun y => (needT 17 y.2).bind fun z => bodyE f w (n + 1) (b ++ [x, y.1]) z.2) fun _ => (ih.ex w).bind (q := fun y l => (needT 17 l).bind fun z => bodyE f w (n + 1) (b ++ [x, y]) z.2) fun y => (Good.need 17).bind (q := fun _ l => bodyE f w (n + 1) (b ++ [x, y]) l) fun _ => ih.bd w _ _) (.pure _) (fun l x' _ hx => ?_)
        obtain ⟨o, ho, hx⟩ := bind_ok hx
        obtain ⟨a, ha, hx⟩ := bind_ok hx
        obtain ⟨z, hz, hx⟩ := bind_ok hx
        have := oneT_lt ho; have := ln.ex _ _ _ ha; have := needT_lt hz; have := ln.bd _ _ _ _ _ hx
        omega
end Go.Proofs.YtngeooflfkpikaaGreatDoor
