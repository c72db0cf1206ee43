/-
  Plain: instructions, which are formed, which places are come to with how many on the stack.
-/
import Derived.Test.YtllgkdkjcbohcaaGreatDoorZLexPlain
namespace Go.Proofs.YtllgkdkjcbohcaaGreatDoor
/-- an instruction -/
structure Ins where
  op : Int
  aop : Int
  af : Int
  ag : Int
  n : Int
  «to» : Int
  nums : List Int
  text : List UInt8
/-- may a text be that of a word of this kind? -/
def spellOk (k : Int) (s : List UInt8) : Bool := decide ((spellF [⟨k, 0, 0, s, 0⟩]).2 = 0)
/-- has it just the fields that it may have? -/
def formedF (i : Ins) : Bool :=
  decide (1 ≤ i.op ∧ i.op ≤ 11) && (decide (i.op = 1) == decide (i.nums ≠ [])) && decide (i.op = 6 ∨ i.op = 7 ∨ (i.aop = 0 ∧ i.af = 0 ∧ i.ag = 0)) && decide (i.op = 9 ∨ i.op = 10 ∨ i.to = 0) &&
  (if i.op = 8 then decide (1 ≤ i.n ∧ i.n ≤ 2000) else if i.op = 10 then decide (i.n = 1 ∨ i.n = 2) else decide (i.n = 0)) &&
  (if i.op = 3 then spellOk 3 i.text else if i.op = 2 then spellOk 2 i.text else decide (i.text = []))
/-- what is wrong with code, by its text alone: the first thing -/
def preF (len : Int) : List Ins → Int
  | [] => 0
  | i :: r => if formedF i = false then 1 else if (i.op = 9 ∨ i.op = 10) ∧ (i.to < 0 ∨ len ≤ i.to) then 5 else preF len r
def takesF (i : Ins) : Int := if i.op ≤ 5 then 0 else if i.op = 7 then 2 else if i.op = 8 then i.n + 1 else if i.op = 10 then i.n else 1
/-- where it goes on behind the instruction at a place, with how many; none: it is stuck -/
def goesF (x : Ins) (i : Int) (d : Int) : Option (List (Int × Int)) :=
  if d < takesF x ∨ (x.op = 11 ∧ d ≠ 1) then none
  else if x.op = 11 then some []
  else if x.op = 10 then some [(x.to, 0), (i + 1, d - takesF x + 1)]
  else if x.op = 9 then some [(x.to, d - 1), (i + 1, d - 1)]
  else some [(i + 1, d - takesF x + 1)]
inductive Rch (c : List Ins) : Int → Int → Prop
  | start : Rch c 0 0
  | step {i : Nat} {d j e : Int} {x : Ins} {L : List (Int × Int)} : Rch c i d → c[i]? = some x → goesF x i d = some L → (j, e) ∈ L → Rch c j e
inductive Bad (c : List Ins) : Prop
  | stuck {i : Nat} {d : Int} {x : Ins} : Rch c i d → c[i]? = some x → goesF x i d = none → Bad c
  | out {j d : Int} : Rch c j d → (c.length : Int) ≤ j → Bad c
  | two {j d e : Int} : Rch c j d → Rch c j e → d ≠ e → Bad c
/-- the depths of code -/
structure DepthsF (c : List Ins) (D : List Int) : Prop where
  len : D.length = c.length
  good : ¬ Bad c
  iff : ∀ (i : Nat) (d : Int), 0 ≤ d → (D[i]? = some d ↔ Rch c i d)
  neg : ∀ (i : Nat) (d : Int), D[i]? = some d → 0 ≤ d ∨ d = -1
  bnd : ∀ (i : Nat) (d : Int), D[i]? = some d → d ≤ D.length
/-- what Depths tells: what is wrong, the depths -/
def DepthsA (c : List Ins) (e : Int) (D : List Int) : Prop :=
  if 2000 < c.length then e = 7 ∧ D = []
  else if preF c.length c ≠ 0 then e = preF c.length c ∧ D = []
  else (e = 9 ∧ D = [] ∧ Bad c) ∨ (e = 0 ∧ DepthsF c D)
theorem DepthsF.eq {c : List Ins} {D D' : List Int} (h : DepthsF c D) (h' : DepthsF c D') : D = D' := by
  apply List.ext_getElem?
  intro i
  cases hd : D[i]? with
  | none =>
    rw [List.getElem?_eq_none_iff] at hd
    rw [List.getElem?_eq_none (by rw [h'.len, ← h.len]; exact hd)]
  | some d =>
    rcases h.neg i d hd with h0 | rfl
    · rw [(h'.iff i d h0).2 ((h.iff i d h0).1 hd)]
    · have hi : i < D'.length := by rw [h'.len, ← h.len]; exact (List.getElem?_eq_some_iff.1 hd).1
      rw [List.getElem?_eq_getElem hi]
      rcases h'.neg i _ (List.getElem?_eq_getElem hi) with h1 | h1
      · have := (h.iff i _ h1).2 ((h'.iff i _ h1).1 (List.getElem?_eq_getElem hi))
        rw [hd] at this
        rw [this]
      · rw [h1]
theorem DepthsA.eq {c : List Ins} {e e' : Int} {D D' : List Int} (h : DepthsA c e D) (h' : DepthsA c e' D') : e = e' ∧ D = D' := by
  unfold DepthsA at h h'
  split at h
  · rename_i h1; rw [if_pos h1] at h'; exact ⟨h.1.trans h'.1.symm, h.2.trans h'.2.symm⟩
  rename_i h1
  rw [if_neg h1] at h'
  split at h
  · rename_i h2; rw [if_pos h2] at h'; exact ⟨h.1.trans h'.1.symm, h.2.trans h'.2.symm⟩
  rename_i h2
  rw [if_neg h2] at h'
  rcases h with ⟨a, b, cc⟩ | ⟨a, b⟩ <;> rcases h' with ⟨a', b', c'⟩ | ⟨a', b'⟩
  · exact ⟨a.trans a'.symm, b.trans b'.symm⟩
  · exact absurd cc b'.good
  · exact absurd c' b.good
  · exact ⟨a.trans a'.symm, b.eq b'⟩
/-! ## the walk's state: the depths so far, what is to do -/
/-- D' has what D has, and more -/
def Ups (D D' : List Int) : Prop := D'.length = D.length ∧ ∀ (i : Nat) (d : Int), 0 ≤ d → D[i]? = some d → D'[i]? = some d
theorem Ups.refl (D : List Int) : Ups D D := ⟨rfl, fun _ _ _ h => h⟩
theorem Ups.trans {D D' D'' : List Int} (h : Ups D D') (k : Ups D' D'') : Ups D D'' := ⟨k.1.trans h.1, fun i d h0 hd => k.2 i d h0 (h.2 i d h0 hd)⟩
end Go.Proofs.YtllgkdkjcbohcaaGreatDoor
