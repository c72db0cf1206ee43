/-
  What nodes of a tree are, told plainly: expressions with their parts, laid flat; which nodes begin with an expression. Of no program.
-/
import Derived.Test.YtllgkdkjcbohcaaGreatDoorZSoundPlain
namespace Go.Proofs.YtllgkdkjcbohcaaGreatDoor
/-- a node of a tree -/
structure Nod where
  op : Int
  aop : Int := 0
  af : Int := 0
  ag : Int := 0
  n : Int := 0
  nums : List Int := []
  text : List UInt8 := []
mutual
/-- an expression: a leaf; a function with what is written out of it, of one part or of two; a part at indices -/
inductive Ex where
  | leaf (n : Nod)
  | one (n : Nod) (b : Exs) (r : Ex)
  | two (n : Nod) (l : Ex) (b : Exs) (r : Ex)
  | pick (n : Nod) (o : Ex) (b : Exs)
inductive Exs where
  | nil
  | cons (e : Ex) (r : Exs)
end
mutual
/-- laid flat -/
def Ex.flat : Ex → List Nod
  | .leaf n => [n]
  | .one n b r => n :: (b.flat ++ r.flat)
  | .two n l b r => n :: (l.flat ++ (b.flat ++ r.flat))
  | .pick n o b => n :: (o.flat ++ b.flat)
def Exs.flat : Exs → List Nod
  | .nil => []
  | .cons e r => e.flat ++ r.flat
end
def Exs.len : Exs → Nat
  | .nil => 0
  | .cons _ r => r.len + 1
/-- is an act one that may be? -/
def actOk (a f g : Int) : Bool :=
  if a = 0 ∨ a = 1 ∨ a = 2 ∨ a = 3 ∨ a = 5 then decide (1 ≤ f ∧ f ≤ 34 ∧ g = 0)
  else if a = 4 then decide (1 ≤ f ∧ f ≤ 34 ∧ 1 ≤ g ∧ g ≤ 34)
  else if a = 6 ∨ a = 7 then decide (f = 0 ∧ g = 0) else false
/-- has a node just the fields that it may have? -/
def rightN (n : Nod) : Bool :=
  (decide (n.op = 1) == decide (n.nums ≠ [])) &&
  (if n.op = 3 ∨ n.op = 9 then spellOk 3 n.text else if n.op = 2 then spellOk 2 n.text else decide (n.text = [])) &&
  (if n.op = 8 then decide (0 < n.n ∧ n.aop = 0 ∧ n.af = 0 ∧ n.ag = 0)
   else if n.op = 6 ∨ n.op = 7 then actOk n.aop n.af n.ag && decide (0 ≤ n.n ∧ (n.n = 0 ∨ n.aop = 6))
   else decide (n.n = 0 ∧ n.aop = 0 ∧ n.af = 0 ∧ n.ag = 0))
mutual
/-- may it be, within so many functions that are written out? -/
def Ex.ok : Nat → Ex → Prop
  | d, .leaf n => rightN n = true ∧ (n.op = 1 ∨ n.op = 2 ∨ n.op = 3 ∨ ((n.op = 4 ∨ n.op = 5) ∧ 0 < d))
  | d, .one n b r => (rightN n = true ∧ n.op = 6 ∧ b.len = (if n.aop = 6 then 2 * n.n.toNat + 1 else 0) ∧ (n.aop = 7 → 0 < d)) ∧ b.ok (d + 1) ∧ r.ok d
  | d, .two n l b r => (rightN n = true ∧ n.op = 7 ∧ b.len = (if n.aop = 6 then 2 * n.n.toNat + 1 else 0) ∧ (n.aop = 7 → 0 < d)) ∧ l.ok d ∧ b.ok (d + 1) ∧ r.ok d
  | d, .pick n o b => (rightN n = true ∧ n.op = 8 ∧ b.len = n.n.toNat) ∧ o.ok d ∧ b.ok d
def Exs.ok : Nat → Exs → Prop
  | _, .nil => True
  | d, .cons e r => e.ok d ∧ r.ok d
end
theorem Ex.flat_pos (e : Ex) : 0 < e.flat.length := by cases e <;> simp [Ex.flat]
theorem Exs.flat_len : ∀ (b : Exs), b.len ≤ b.flat.length
  | .nil => by simp [Exs.len]
  | .cons e r => by have := Exs.flat_len r; have := e.flat_pos; simp only [Exs.len, Exs.flat, List.length_append]; omega
mutual
/-- nodes begin with one expression at most -/
theorem Ex.uni : ∀ (e e' : Ex) (d : Nat) (r r' : List Nod), e.ok d → e'.ok d → e.flat ++ r = e'.flat ++ r' → e = e' ∧ r = r'
  | .leaf n, e', d, r, r', h, h', he => by
    obtain ⟨h1, h2⟩ := h
    cases e' with
    | leaf n' => simp only [Ex.flat, List.cons_append, List.nil_append, List.cons.injEq] at he; exact ⟨by rw [he.1], he.2⟩
    | one n' b' r1' => exfalso; obtain ⟨⟨_, k2, _⟩, _⟩ := h'; simp only [Ex.flat, List.cons_append, List.cons.injEq] at he; rw [he.1] at h2; omega
    | two n' l' b' r1' => exfalso; obtain ⟨⟨_, k2, _⟩, _⟩ := h'; simp only [Ex.flat, List.cons_append, List.cons.injEq] at he; rw [he.1] at h2; omega
    | pick n' o' b' => exfalso; obtain ⟨⟨_, k2, _⟩, _⟩ := h'; simp only [Ex.flat, List.cons_append, List.cons.injEq] at he; rw [he.1] at h2; omega
  | .one n b r1, e', d, r, r', h, h', he => by
    obtain ⟨⟨h1, h2, h3, _⟩, h4, h5⟩ := h
    cases e' with
    | leaf n' => exfalso; obtain ⟨_, k2⟩ := h'; simp only [Ex.flat, List.cons_append, List.cons.injEq] at he; rw [← he.1] at k2; omega
    | one n' b' r1' =>
      obtain ⟨⟨k1, k2, k3, _⟩, k4, k5⟩ := h'
      simp only [Ex.flat, List.cons_append, List.append_assoc, List.cons.injEq] at he
      obtain ⟨rfl, he⟩ := he
      obtain ⟨rfl, he2⟩ := Exs.uni b b' (d + 1) _ _ h4 k4 (h3.trans k3.symm) he
      obtain ⟨rfl, he3⟩ := Ex.uni r1 r1' d _ _ h5 k5 he2
      exact ⟨rfl, he3⟩
    | two n' l' b' r1' => exfalso; obtain ⟨⟨_, k2, _⟩, _⟩ := h'; simp only [Ex.flat, List.cons_append, List.cons.injEq] at he; rw [he.1] at h2; omega
    | pick n' o' b' => exfalso; obtain ⟨⟨_, k2, _⟩, _⟩ := h'; simp only [Ex.flat, List.cons_append, List.cons.injEq] at he; rw [he.1] at h2; omega
  | .two n l b r1, e', d, r, r', h, h', he => by
    obtain ⟨⟨h1, h2, h3, _⟩, h6, h4, h5⟩ := h
    cases e' with
    | leaf n' => exfalso; obtain ⟨_, k2⟩ := h'; simp only [Ex.flat, List.cons_append, List.cons.injEq] at he; rw [← he.1] at k2; omega
    | one n' b' r1' => exfalso; obtain ⟨⟨_, k2, _⟩, _⟩ := h'; simp only [Ex.flat, List.cons_append, List.cons.injEq] at he; rw [he.1] at h2; omega
    | two n' l' b' r1' =>
      obtain ⟨⟨k1, k2, k3, _⟩, k6, k4, k5⟩ := h'
      simp only [Ex.flat, List.cons_append, List.append_assoc, List.cons.injEq] at he
      obtain ⟨rfl, he⟩ := he
      obtain ⟨rfl, he2⟩ := Ex.uni l l' d _ _ h6 k6 he
      obtain ⟨rfl, he3⟩ := Exs.uni b b' (d + 1) _ _ h4 k4 (h3.trans k3.symm) he2
      obtain ⟨rfl, he4⟩ := Ex.uni r1 r1' d _ _ h5 k5 he3
      exact ⟨rfl, he4⟩
    | pick n' o' b' => exfalso; obtain ⟨⟨_, k2, _⟩, _⟩ := h'; simp only [Ex.flat, List.cons_append, List.cons.injEq] at he; rw [he.1] at h2; omega
  | .pick n o b, e', d, r, r', h, h', he => by
    obtain ⟨⟨h1, h2, h3⟩, h6, h4⟩ := h
    cases e' with
    | leaf n' => exfalso; obtain ⟨_, k2⟩ := h'; simp only [Ex.flat, List.cons_append, List.cons.injEq] at he; rw [← he.1] at k2; omega
    | one n' b' r1' => exfalso; obtain ⟨⟨_, k2, _⟩, _⟩ := h'; simp only [Ex.flat, List.cons_append, List.cons.injEq] at he; rw [he.1] at h2; omega
    | two n' l' b' r1' => exfalso; obtain ⟨⟨_, k2, _⟩, _⟩ := h'; simp only [Ex.flat, List.cons_append, List.cons.injEq] at he; rw [he.1] at h2; omega
    | pick n' o' b' =>
      obtain ⟨⟨k1, k2, k3⟩, k6, k4⟩ := h'
      simp only [Ex.flat, List.cons_append, List.append_assoc, List.cons.injEq] at he
      obtain ⟨rfl, he⟩ := he
      obtain ⟨rfl, he2⟩ := Ex.uni o o' d _ _ h6 k6 he
      obtain ⟨rfl, he3⟩ := Exs.uni b b' d _ _ h4 k4 (h3.trans k3.symm) he2
      exact ⟨rfl, he3⟩
theorem Exs.uni : ∀ (b b' : Exs) (d : Nat) (r r' : List Nod), b.ok d → b'.ok d → b.len = b'.len → b.flat ++ r = b'.flat ++ r' → b = b' ∧ r = r'
  | .nil, .nil, _, r, r', _, _, _, he => ⟨rfl, by simpa [Exs.flat] using he⟩
  | .nil, .cons _ _, _, _, _, _, _, hl, _ => by simp [Exs.len] at hl
  | .cons _ _, .nil, _, _, _, _, _, hl, _ => by simp [Exs.len] at hl
  | .cons e b, .cons e' b', d, r, r', h, h', hl, he => by
    simp only [Exs.flat, List.append_assoc] at he
    simp only [Exs.len, Nat.add_right_cancel_iff] at hl
    obtain ⟨rfl, he2⟩ := Ex.uni e e' d _ _ h.1 h'.1 he
    obtain ⟨rfl, he3⟩ := Exs.uni b b' d _ _ h.2 h'.2 hl he2
    exact ⟨rfl, he3⟩
end
open Classical in
/-- the expression with which nodes begin, and what is behind it -/
noncomputable def exF (d : Nat) (l : List Nod) : Option (Ex × List Nod) := if h : ∃ x : Ex × List Nod, x.1.ok d ∧ l = x.1.flat ++ x.2 then some h.choose else none
open Classical in
/-- so many of them -/
noncomputable def exsF (d k : Nat) (l : List Nod) : Option (Exs × List Nod) := if h : ∃ x : Exs × List Nod, x.1.ok d ∧ x.1.len = k ∧ l = x.1.flat ++ x.2 then some h.choose else none
theorem exF_iff {d : Nat} {l r : List Nod} {e : Ex} : exF d l = some (e, r) ↔ e.ok d ∧ l = e.flat ++ r := by
  unfold exF
  constructor
  · intro h
    split at h
    · rename_i hx
      injection h with h
      have := hx.choose_spec
      rw [h] at this
      exact this
    · cases h
  · rintro ⟨h1, h2⟩
    have hx : ∃ x : Ex × List Nod, x.1.ok d ∧ l = x.1.flat ++ x.2 := ⟨(e, r), h1, h2⟩
    rw [dif_pos hx]
    have hs := hx.choose_spec
    generalize hx.choose = y at hs
    obtain ⟨e', r'⟩ := y
    obtain ⟨h3, h4⟩ := hs
    obtain ⟨h5, h6⟩ := Ex.uni e e' d r r' h1 h3 (h2.symm.trans h4)
    rw [h5, h6]
theorem exsF_iff {d k : Nat} {l r : List Nod} {b : Exs} : exsF d k l = some (b, r) ↔ b.ok d ∧ b.len = k ∧ l = b.flat ++ r := by
  unfold exsF
  constructor
  · intro h
    split at h
    · rename_i hx
      injection h with h
      have := hx.choose_spec
      rw [h] at this
      exact this
    · cases h
  · rintro ⟨h1, h0, h2⟩
    have hx : ∃ x : Exs × List Nod, x.1.ok d ∧ x.1.len = k ∧ l = x.1.flat ++ x.2 := ⟨(b, r), h1, h0, h2⟩
    rw [dif_pos hx]
    have hs := hx.choose_spec
    generalize hx.choose = y at hs
    obtain ⟨b', r'⟩ := y
    obtain ⟨h3, h30, h4⟩ := hs
    obtain ⟨h5, h6⟩ := Exs.uni b b' d r r' h1 h3 (h0.trans h30.symm) (h2.symm.trans h4)
    rw [h5, h6]
theorem exF_none {d : Nat} {l : List Nod} (h : ∀ (e : Ex) (r : List Nod), e.ok d → l ≠ e.flat ++ r) : exF d l = none := by
  cases hx : exF d l with
  | none => rfl
  | some x =>
    obtain ⟨e, r⟩ := x
    obtain ⟨h1, h2⟩ := exF_iff.1 hx
    exact absurd h2 (h e r h1)
theorem exsF_none {d k : Nat} {l : List Nod} (h : ∀ (b : Exs) (r : List Nod), b.ok d → b.len = k → l ≠ b.flat ++ r) : exsF d k l = none := by
  cases hx : exsF d k l with
  | none => rfl
  | some x =>
    obtain ⟨e, r⟩ := x
    obtain ⟨h1, h0, h2⟩ := exsF_iff.1 hx
    exact absurd h2 (h e r h1 h0)
theorem exF_nil (d : Nat) : exF d [] = none := exF_none fun e r _ he => by
  have := e.flat_pos
  have := congrArg List.length he
  simp at this
  omega
theorem exsF_zero (d : Nat) (l : List Nod) : exsF d 0 l = some (.nil, l) := exsF_iff.2 ⟨trivial, rfl, rfl⟩
theorem exsF_succ (d k : Nat) (l : List Nod) : exsF d (k + 1) l = match exF d l with
    | none => none
    | some (e, r) => match exsF d k r with
      | none => none
      | some (b, r') => some (.cons e b, r') := by
  cases h1 : exF d l with
  | none =>
    refine exsF_none fun b r hb hk he => ?_
    cases b with
    | nil => simp [Exs.len] at hk
    | cons e b =>
      have : exF d l = some (e, b.flat ++ r) := exF_iff.2 ⟨hb.1, by rw [he]; simp [Exs.flat]⟩
      rw [h1] at this; cases this
  | some x =>
    obtain ⟨e, r⟩ := x
    obtain ⟨o1, rfl⟩ := exF_iff.1 h1
    simp only
    cases h2 : exsF d k r with
    | none =>
      refine exsF_none fun b r2 hb hk he => ?_
      cases b with
      | nil => simp [Exs.len] at hk
      | cons e' b =>
        simp only [Exs.flat, List.append_assoc] at he
        obtain ⟨rfl, he2⟩ := Ex.uni e e' d _ _ o1 hb.1 he
        have : exsF d k r = some (b, r2) := exsF_iff.2 ⟨hb.2, by simpa [Exs.len] using hk, he2⟩
        rw [h2] at this; cases this
    | some y =>
      obtain ⟨b, r2⟩ := y
      obtain ⟨o2, o3, rfl⟩ := exsF_iff.1 h2
      exact exsF_iff.2 ⟨⟨o1, o2⟩, by simp [Exs.len, o3], by simp [Exs.flat]⟩
theorem exsF_len {d k : Nat} {l r : List Nod} {b : Exs} (h : exsF d k l = some (b, r)) : r.length + k ≤ l.length := by
  obtain ⟨_, h2, rfl⟩ := exsF_iff.1 h
  have := b.flat_len
  simp; omega
def Exs.app : Exs → Exs → Exs
  | .nil, c => c
  | .cons e b, c => .cons e (b.app c)
theorem exsF_add {d : Nat} : ∀ (j k : Nat) (l : List Nod), exsF d (j + k) l = match exsF d j l with
    | none => none
    | some (b, r) => match exsF d k r with
      | none => none
      | some (c, r') => some (b.app c, r')
  | 0, k, l => by
    rw [exsF_zero, Nat.zero_add]
    simp only
    cases exsF d k l with
    | none => rfl
    | some x => rfl
  | j + 1, k, l => by
    rw [show j + 1 + k = (j + k) + 1 by omega, exsF_succ, exsF_succ]
    cases exF d l with
    | none => rfl
    | some x =>
      obtain ⟨e, r⟩ := x
      simp only
      rw [exsF_add j k r]
      cases exsF d j r with
      | none => rfl
      | some y =>
        obtain ⟨b, r2⟩ := y
        simp only
        cases exsF d k r2 with
        | none => rfl
        | some z => rfl
theorem exsF_one (d : Nat) (l : List Nod) : exsF d 1 l = match exF d l with
    | none => none
    | some (e, r) => some (.cons e .nil, r) := by
  rw [exsF_succ]
  cases exF d l with
  | none => rfl
  | some x => simp only; rw [exsF_zero]
theorem exsF_stop {d j : Nat} {l : List Nod} (h : exsF d j l = none) {k : Nat} (hk : j ≤ k) : exsF d k l = none := by
  rw [show k = j + (k - j) by omega, exsF_add, h]
/-- how many parts are written out of a function -/
def bodyN (n : Nod) : Nat := if n.aop = 6 then 2 * n.n.toNat + 1 else 0
/-- what is written out of a function -/
noncomputable def funF (d : Nat) (n : Nod) (l : List Nod) : Option (Exs × List Nod) := if n.aop = 7 ∧ d = 0 then none else exsF (d + 1) (bodyN n) l
theorem funF_iff {d : Nat} {n : Nod} {l r : List Nod} {b : Exs} : funF d n l = some (b, r) ↔ (n.aop = 7 → 0 < d) ∧ b.ok (d + 1) ∧ b.len = bodyN n ∧ l = b.flat ++ r := by
  unfold funF
  by_cases h : n.aop = 7 ∧ d = 0
  · rw [if_pos h]
    refine ⟨fun h => (by cases h), fun k => ?_⟩
    have := k.1 h.1
    omega
  · rw [if_neg h, exsF_iff]
    refine ⟨fun k => ⟨fun h7 => ?_, k⟩, fun k => k.2⟩
    rcases Nat.eq_zero_or_pos d with h0 | h0
    · exact absurd ⟨h7, h0⟩ h
    · exact h0
/-- the expression with which nodes begin, by the first of them -/
theorem exF_cons (d : Nat) (n : Nod) (l : List Nod) : exF d (n :: l) =
    if rightN n = false then none
    else if n.op = 1 ∨ n.op = 2 ∨ n.op = 3 then some (.leaf n, l)
    else if n.op = 4 ∨ n.op = 5 then (if d = 0 then none else some (.leaf n, l))
    else if n.op = 6 then (match funF d n l with
      | none => none
      | some (b, r) => match exF d r with
        | none => none
        | some (e, r') => some (.one n b e, r'))
    else if n.op = 7 then (match exF d l with
      | none => none
      | some (e, r) => match funF d n r with
        | none => none
        | some (b, r2) => match exF d r2 with
          | none => none
          | some (e2, r') => some (.two n e b e2, r'))
    else if n.op = 8 then (match exF d l with
      | none => none
      | some (e, r) => match exsF d n.n.toNat r with
        | none => none
        | some (b, r') => some (.pick n e b, r'))
    else none := by
  have key : ∀ {Z : Option (Ex × List Nod)}, (∀ (e : Ex) (r : List Nod), e.ok d → n :: l = e.flat ++ r → Z = some (e, r)) → (∀ (e : Ex) (r : List Nod), Z = some (e, r) → exF d (n :: l) = some (e, r)) → exF d (n :: l) = Z := by
    intro Z h1 h2
    cases hx : exF d (n :: l) with
    | none =>
      cases hz : Z with
      | none => rfl
      | some x => obtain ⟨e, r⟩ := x; rw [h2 e r hz] at hx; cases hx
    | some x =>
      obtain ⟨e, r⟩ := x
      obtain ⟨o1, o2⟩ := exF_iff.1 hx
      exact (h1 e r o1 o2).symm
  apply key
  · intro e r ho he
    cases e with
    | leaf n' =>
      obtain ⟨h1, h2⟩ := ho
      simp only [Ex.flat, List.cons_append, List.nil_append, List.cons.injEq] at he
      obtain ⟨rfl, rfl⟩ := he
      rw [if_neg (by rw [h1]; simp)]
      by_cases h3 : n.op = 1 ∨ n.op = 2 ∨ n.op = 3
      · rw [if_pos h3]
      · rw [if_neg h3, if_pos (by omega), if_neg (by omega)]
    | one n' b e =>
      obtain ⟨⟨h1, h2, h3, h6⟩, h4, h5⟩ := ho
      simp only [Ex.flat, List.cons_append, List.append_assoc, List.cons.injEq] at he
      obtain ⟨rfl, rfl⟩ := he
      rw [if_neg (by rw [h1]; simp), if_neg (by omega), if_neg (by omega), if_pos h2, funF_iff.2 ⟨h6, h4, h3, rfl⟩]
      simp only
      rw [exF_iff.2 ⟨h5, rfl⟩]
    | two n' e b e2 =>
      obtain ⟨⟨h1, h2, h3, h6⟩, h7, h4, h5⟩ := ho
      simp only [Ex.flat, List.cons_append, List.append_assoc, List.cons.injEq] at he
      obtain ⟨rfl, rfl⟩ := he
      rw [if_neg (by rw [h1]; simp), if_neg (by omega), if_neg (by omega), if_neg (by omega), if_pos h2, exF_iff.2 ⟨h7, rfl⟩]
      simp only
      rw [funF_iff.2 ⟨h6, h4, h3, rfl⟩]
      simp only
      rw [exF_iff.2 ⟨h5, rfl⟩]
    | pick n' e b =>
      obtain ⟨⟨h1, h2, h3⟩, h7, h4⟩ := ho
      simp only [Ex.flat, List.cons_append, List.append_assoc, List.cons.injEq] at he
      obtain ⟨rfl, rfl⟩ := he
      rw [if_neg (by rw [h1]; simp), if_neg (by omega), if_neg (by omega), if_neg (by omega), if_neg (by omega), if_pos h2, exF_iff.2 ⟨h7, rfl⟩]
      simp only
      rw [exsF_iff.2 ⟨h4, h3, rfl⟩]
  · intro e r hz
    by_cases h1 : rightN n = false
    · rw [if_pos h1] at hz; cases hz
    rw [if_neg h1] at hz
    have h1' : rightN n = true := by simpa using h1
    by_cases h2 : n.op = 1 ∨ n.op = 2 ∨ n.op = 3
    · rw [if_pos h2] at hz
      injection hz with hz
      injection hz with hz1 hz2
      subst hz1 hz2
      exact exF_iff.2 ⟨⟨h1', by omega⟩, rfl⟩
    rw [if_neg h2] at hz
    by_cases h3 : n.op = 4 ∨ n.op = 5
    · rw [if_pos h3] at hz
      by_cases h0 : d = 0
      · rw [if_pos h0] at hz; cases hz
      · rw [if_neg h0] at hz
        injection hz with hz
        injection hz with hz1 hz2
        subst hz1 hz2
        exact exF_iff.2 ⟨⟨h1', by omega⟩, rfl⟩
    rw [if_neg h3] at hz
    by_cases h6 : n.op = 6
    · rw [if_pos h6] at hz
      cases hf : funF d n l with
      | none => rw [hf] at hz; cases hz
      | some x =>
        obtain ⟨b, r1⟩ := x
        rw [hf] at hz
        simp only at hz
        cases he : exF d r1 with
        | none => rw [he] at hz; cases hz
        | some y =>
          obtain ⟨e1, r2⟩ := y
          rw [he] at hz
          simp only at hz
          injection hz with hz
          injection hz with hz1 hz2
          subst hz1 hz2
          obtain ⟨f1, f2, f3, rfl⟩ := funF_iff.1 hf
          obtain ⟨g1, rfl⟩ := exF_iff.1 he
          exact exF_iff.2 ⟨⟨⟨h1', h6, f3, f1⟩, f2, g1⟩, by simp [Ex.flat]⟩
    rw [if_neg h6] at hz
    by_cases h7 : n.op = 7
    · rw [if_pos h7] at hz
      cases hl : exF d l with
      | none => rw [hl] at hz; cases hz
      | some w =>
        obtain ⟨e0, r0⟩ := w
        rw [hl] at hz
        simp only at hz
        cases hf : funF d n r0 with
        | none => rw [hf] at hz; cases hz
        | some x =>
          obtain ⟨b, r1⟩ := x
          rw [hf] at hz
          simp only at hz
          cases he : exF d r1 with
          | none => rw [he] at hz; cases hz
          | some y =>
            obtain ⟨e1, r2⟩ := y
            rw [he] at hz
            simp only at hz
            injection hz with hz
            injection hz with hz1 hz2
            subst hz1 hz2
            obtain ⟨k1, rfl⟩ := exF_iff.1 hl
            obtain ⟨f1, f2, f3, rfl⟩ := funF_iff.1 hf
            obtain ⟨g1, rfl⟩ := exF_iff.1 he
            exact exF_iff.2 ⟨⟨⟨h1', h7, f3, f1⟩, k1, f2, g1⟩, by simp [Ex.flat]⟩
    rw [if_neg h7] at hz
    by_cases h8 : n.op = 8
    · rw [if_pos h8] at hz
      cases hl : exF d l with
      | none => rw [hl] at hz; cases hz
      | some w =>
        obtain ⟨e0, r0⟩ := w
        rw [hl] at hz
        simp only at hz
        cases hf : exsF d n.n.toNat r0 with
        | none => rw [hf] at hz; cases hz
        | some x =>
          obtain ⟨b, r1⟩ := x
          rw [hf] at hz
          simp only at hz
          injection hz with hz
          injection hz with hz1 hz2
          subst hz1 hz2
          obtain ⟨k1, rfl⟩ := exF_iff.1 hl
          obtain ⟨f1, f2, rfl⟩ := exsF_iff.1 hf
          exact exF_iff.2 ⟨⟨⟨h1', h8, f2⟩, k1, f1⟩, by simp [Ex.flat]⟩
    · rw [if_neg h8] at hz; cases hz
/-- a line: the name that it gives a value, if any, and the expression -/
noncomputable def treeG (l : List Nod) : Option (Option Nod × Ex) := match l with
  | [] => none
  | n :: r => if n.op = 9 ∧ rightN n = true then (match exF 0 r with
      | some (e, []) => some (some n, e)
      | _ => none)
    else match exF 0 (n :: r) with
      | some (e, []) => some (none, e)
      | _ => none
/-- what is wrong with nodes -/
noncomputable def treeF (l : List Nod) : Int := if 400 < l.length then 7 else if (treeG l).isSome then 0 else 1
end Go.Proofs.YtllgkdkjcbohcaaGreatDoor
