/-
  Plain: instructions, which are formed, which places are come to with how many on the stack.
-/
import Derived.Test.YtanbifmcnkhdhaaGreatDoorLexPlain
namespace Go.Proofs.YtanbifmcnkhdhaaGreatDoor

/-- an instruction -/
structure Ins where
  op : Int
  aop : Int
  af : Int
  ag : Int
  n : Int
  to : Int
  nums : List Int
  text : List UInt8
instance : Inhabited Ins := ⟨⟨0, 0, 0, 0, 0, 0, [], []⟩⟩

/-- may a text be that of a word of this kind? -/
def spellOk (k : Int) (s : List UInt8) : Bool := decide ((spellF [⟨k, 0, 0, s, 0⟩]).2 = 0)
/-- has it just the fields that it may have? -/
def formedF (i : Ins) : Bool :=
  decide (1 ≤ i.op ∧ i.op ≤ 11) && (decide (i.op = 1) == decide (i.nums ≠ [])) && decide (i.op = 6 ∨ i.op = 7 ∨ (i.aop = 0 ∧ i.af = 0 ∧ i.ag = 0)) && decide (i.op = 9 ∨ i.op = 10 ∨ i.to = 0) &&
  (if i.op = 8 then decide (1 ≤ i.n ∧ i.n ≤ 2000) else if i.op = 10 then decide (i.n = 1 ∨ i.n = 2) else decide (i.n = 0)) &&
  (if i.op = 3 then spellOk 3 i.text else if i.op = 2 then spellOk 2 i.text else decide (i.text = []))
/-- what is wrong with code, by its text alone: the first thing -/
def preF (len : Int) : List Ins → Int
  | [] => 0
  | i :: r => if formedF i = false then 1 else if (i.op = 9 ∨ i.op = 10) ∧ (i.to < 0 ∨ len ≤ i.to) then 5 else preF len r
def takesF (i : Ins) : Int := if i.op ≤ 5 then 0 else if i.op = 7 then 2 else if i.op = 8 then i.n + 1 else if i.op = 10 then i.n else 1
def laysF (i : Ins) : Int := if i.op = 9 ∨ i.op = 11 then 0 else 1
/-- where it goes on behind the instruction at a place, with how many; none: it is stuck -/
def goesF (x : Ins) (i : Int) (d : Int) : Option (List (Int × Int)) :=
  if d < takesF x ∨ (x.op = 11 ∧ d ≠ 1) then none
  else if x.op = 11 then some []
  else if x.op = 10 then some [(x.to, 0), (i + 1, d - takesF x + 1)]
  else if x.op = 9 then some [(x.to, d - 1), (i + 1, d - 1)]
  else some [(i + 1, d - takesF x + 1)]
inductive Rch (c : List Ins) : Int → Int → Prop
  | start : Rch c 0 0
  | step {i : Nat} {d j e : Int} {x : Ins} {L : List (Int × Int)} : Rch c i d → c[i]? = some x → goesF x i d = some L → (j, e) ∈ L → Rch c j e
inductive Bad (c : List Ins) : Prop
  | stuck {i : Nat} {d : Int} {x : Ins} : Rch c i d → c[i]? = some x → goesF x i d = none → Bad c
  | out {j d : Int} : Rch c j d → (c.length : Int) ≤ j → Bad c
  | two {j d e : Int} : Rch c j d → Rch c j e → d ≠ e → Bad c
/-- the depths of code -/
structure DepthsF (c : List Ins) (D : List Int) : Prop where
  len : D.length = c.length
  good : ¬ Bad c
  iff : ∀ (i : Nat) (d : Int), 0 ≤ d → (D[i]? = some d ↔ Rch c i d)
  neg : ∀ (i : Nat) (d : Int), D[i]? = some d → 0 ≤ d ∨ d = -1
  bnd : ∀ (i : Nat) (d : Int), D[i]? = some d → d ≤ D.length
/-- what Depths tells: what is wrong, the depths -/
def DepthsA (c : List Ins) (e : Int) (D : List Int) : Prop :=
  if 2000 < c.length then e = 7 ∧ D = []
  else if preF c.length c ≠ 0 then e = preF c.length c ∧ D = []
  else (e = 9 ∧ D = [] ∧ Bad c) ∨ (e = 0 ∧ DepthsF c D)

theorem DepthsF.eq {c : List Ins} {D D' : List Int} (h : DepthsF c D) (h' : DepthsF c D') : D = D' := by
  apply List.ext_getElem?
  intro i
  cases hd : D[i]? with
  | none =>
    rw [List.getElem?_eq_none_iff] at hd
    rw [List.getElem?_eq_none (by rw [h'.len, ← h.len]; exact hd)]
  | some d =>
    rcases h.neg i d hd with h0 | rfl
    · rw [(h'.iff i d h0).2 ((h.iff i d h0).1 hd)]
    · have hi : i < D'.length := by rw [h'.len, ← h.len]; exact (List.getElem?_eq_some_iff.1 hd).1
      rw [List.getElem?_eq_getElem hi]
      rcases h'.neg i _ (List.getElem?_eq_getElem hi) with h1 | h1
      · have := (h.iff i _ h1).2 ((h'.iff i _ h1).1 (List.getElem?_eq_getElem hi))
        rw [hd] at this
        rw [this]
      · rw [h1]
theorem DepthsA.eq {c : List Ins} {e e' : Int} {D D' : List Int} (h : DepthsA c e D) (h' : DepthsA c e' D') : e = e' ∧ D = D' := by
  unfold DepthsA at h h'
  split at h
  · rename_i h1; rw [if_pos h1] at h'; exact ⟨h.1.trans h'.1.symm, h.2.trans h'.2.symm⟩
  rename_i h1
  rw [if_neg h1] at h'
  split at h
  · rename_i h2; rw [if_pos h2] at h'; exact ⟨h.1.trans h'.1.symm, h.2.trans h'.2.symm⟩
  rename_i h2
  rw [if_neg h2] at h'
  rcases h with ⟨a, b, cc⟩ | ⟨a, b⟩ <;> rcases h' with ⟨a', b', c'⟩ | ⟨a', b'⟩
  · exact ⟨a.trans a'.symm, b.trans b'.symm⟩
  · exact absurd cc b'.good
  · exact absurd c' b.good
  · exact ⟨a.trans a'.symm, b.eq b'⟩

theorem preF_zero {len : Int} : ∀ {c : List Ins}, preF len c = 0 → ∀ x ∈ c, formedF x = true ∧ ((x.op = 9 ∨ x.op = 10) → 0 ≤ x.to ∧ x.to < len)
  | [], _, x, hx => by cases hx
  | i :: r, h, x, hx => by
    unfold preF at h
    split at h
    · cases h
    · rename_i h1
      split at h
      · cases h
      · rename_i h2
        rcases List.mem_cons.1 hx with rfl | hx
        · refine ⟨by simpa using h1, fun ho => ?_⟩
          have : ¬ (x.to < 0 ∨ len ≤ x.to) := fun hh => h2 ⟨ho, hh⟩
          omega
        · exact preF_zero h x hx
theorem formed_op {i : Ins} (h : formedF i = true) : 1 ≤ i.op ∧ i.op ≤ 11 ∧ (i.op = 8 → 1 ≤ i.n ∧ i.n ≤ 2000) ∧ (i.op = 10 → i.n = 1 ∨ i.n = 2) := by
  unfold formedF at h
  simp only [Bool.and_eq_true, decide_eq_true_eq] at h
  obtain ⟨⟨⟨⟨⟨h1, _⟩, _⟩, _⟩, h5⟩, _⟩ := h
  refine ⟨h1.1, h1.2, fun e => ?_, fun e => ?_⟩
  · rw [if_pos e] at h5; simpa using h5
  · rw [if_neg (by omega), if_pos e] at h5; simpa using h5
theorem takes_nonneg {i : Ins} (h : formedF i = true) : 0 ≤ takesF i ∧ takesF i ≤ 2001 := by
  obtain ⟨h1, h2, h3, h4⟩ := formed_op h
  unfold takesF
  split
  · omega
  split
  · omega
  split
  · have := h3 (by assumption); omega
  split
  · have := h4 (by assumption); omega
  · omega
/-- where the depths are closed and all of them are come to, they are the answer -/
theorem depths_of {c : List Ins} {D : List Int} (hl : D.length = c.length) (h0 : D[0]? = some 0) (hn : ∀ (i : Nat) (d : Int), D[i]? = some d → 0 ≤ d ∨ d = -1) (hb : ∀ (i : Nat) (d : Int), D[i]? = some d → d ≤ D.length)
    (hs : ∀ (i : Nat) (d : Int), 0 ≤ d → D[i]? = some d → Rch c i d)
    (hc : ∀ (i : Nat) (d : Int) (x : Ins), 0 ≤ d → D[i]? = some d → c[i]? = some x → ∃ L, goesF x i d = some L ∧ ∀ j e, (j, e) ∈ L → 0 ≤ j ∧ 0 ≤ e ∧ D[j.toNat]? = some e) : DepthsF c D := by
  have key : ∀ j e, Rch c j e → 0 ≤ j ∧ 0 ≤ e ∧ D[j.toNat]? = some e := by
    intro j e h
    induction h with
    | start => exact ⟨by omega, by omega, h0⟩
    | step h hx hg hm ih =>
      obtain ⟨_, h2, h3⟩ := ih
      rw [Int.toNat_natCast] at h3
      obtain ⟨L', hL', hL⟩ := hc _ _ _ h2 h3 hx
      rw [hg] at hL'
      injection hL' with hL'
      subst hL'
      exact hL _ _ hm
  refine ⟨hl, fun hb => ?_, fun i d hd => ⟨hs i d hd, fun h => by have := (key _ _ h).2.2; rwa [Int.toNat_natCast] at this⟩, hn, hb⟩
  cases hb with
  | stuck h hx hg =>
    obtain ⟨_, h2, h3⟩ := key _ _ h
    rw [Int.toNat_natCast] at h3
    obtain ⟨L', hL', _⟩ := hc _ _ _ h2 h3 hx
    rw [hg] at hL'; cases hL'
  | out h hle =>
    obtain ⟨h1, h2, h3⟩ := key _ _ h
    have := (List.getElem?_eq_some_iff.1 h3).1
    omega
  | two h h' hne =>
    have h3 := (key _ _ h).2.2
    have h3' := (key _ _ h').2.2
    rw [h3] at h3'
    injection h3' with h3'
    exact hne h3'

/-! ## the walk's state: the depths so far, what is to do -/
def unm (D : List Int) : Nat := D.count (-1)
structure Wst (c : List Ins) (D : List Int) : Prop where
  len : D.length = c.length
  neg : ∀ (i : Nat) (d : Int), D[i]? = some d → 0 ≤ d ∨ d = -1
  bnd : ∀ (i : Nat) (d : Int), D[i]? = some d → d < (D.length : Int) - unm D
  snd : ∀ (i : Nat) (d : Int), 0 ≤ d → D[i]? = some d → Rch c i d
/-- the rules hold at a place -/
def Okat (c : List Ins) (D : List Int) (i : Nat) : Prop := ∀ (d : Int) (x : Ins), 0 ≤ d → D[i]? = some d → c[i]? = some x → ∃ L, goesF x i d = some L ∧ ∀ j e, (j, e) ∈ L → 0 ≤ j ∧ 0 ≤ e ∧ D[j.toNat]? = some e
/-- D' has what D has, and more -/
def Ups (D D' : List Int) : Prop := D'.length = D.length ∧ ∀ (i : Nat) (d : Int), 0 ≤ d → D[i]? = some d → D'[i]? = some d
theorem Ups.refl (D : List Int) : Ups D D := ⟨rfl, fun _ _ _ h => h⟩
theorem Ups.trans {D D' D'' : List Int} (h : Ups D D') (k : Ups D' D'') : Ups D D'' := ⟨k.1.trans h.1, fun i d h0 hd => k.2 i d h0 (h.2 i d h0 hd)⟩
theorem ups_set {D : List Int} {i : Nat} {d : Int} (h : D[i]? = some (-1)) : Ups D (D.set i d) := by
  refine ⟨by simp, fun j e h0 hj => ?_⟩
  by_cases hij : i = j
  · subst hij; rw [h] at hj; injection hj with hj; omega
  · rw [List.getElem?_set_ne hij]; exact hj
theorem unm_set {D : List Int} {i : Nat} {d : Int} (h : D[i]? = some (-1)) (hd : 0 ≤ d) : unm (D.set i d) + 1 = unm D := by
  unfold unm
  obtain ⟨hi, hv⟩ := List.getElem?_eq_some_iff.1 h
  rw [List.count_set hi, hv]
  have hpos : 0 < D.count (-1) := List.count_pos_iff.2 (hv ▸ List.getElem_mem hi)
  have e2 : ((d == -1) : Bool) = false := by simp; omega
  rw [e2]; simp; omega
theorem unm_le (D : List Int) : unm D ≤ D.length := List.count_le_length
/-- a place that is new -/
theorem Wst.mark {c : List Ins} {D : List Int} {i : Nat} {d : Int} (h : Wst c D) (hi : D[i]? = some (-1)) (hd : 0 ≤ d) (hb : d ≤ (D.length : Int) - unm D) (hr : Rch c i d) : Wst c (D.set i d) := by
  have hu := unm_set hi hd
  have hil : i < D.length := (List.getElem?_eq_some_iff.1 hi).1
  refine ⟨by simp [h.len], fun j e hj => ?_, fun j e hj => ?_, fun j e h0 hj => ?_⟩
  all_goals
    by_cases hij : i = j
    · subst hij
      rw [List.getElem?_set_self hil] at hj
      injection hj with hj
      subst hj
      first
        | exact .inl hd
        | (rw [List.length_set]; omega)
        | exact hr
    · rw [List.getElem?_set_ne hij] at hj
      first
        | exact h.neg j e hj
        | (have := h.bnd j e hj; rw [List.length_set]; omega)
        | exact h.snd j e h0 hj
theorem Okat.ups {c : List Ins} {D D' : List Int} {i : Nat} (h : Okat c D i) (u : Ups D D') (hd : ∀ d, D[i]? = some d → 0 ≤ d) : Okat c D' i := by
  intro d x h0 hi hx
  cases he : D[i]? with
  | none =>
    rw [List.getElem?_eq_none_iff] at he
    have := (List.getElem?_eq_some_iff.1 hi).1
    rw [u.1] at this; omega
  | some e =>
    have h1 := hd e he
    have h2 := u.2 i e h1 he
    rw [hi] at h2
    injection h2 with h2
    subst h2
    obtain ⟨L, hL, hall⟩ := h d x h0 he hx
    exact ⟨L, hL, fun j e hm => by obtain ⟨a, b, k⟩ := hall j e hm; exact ⟨a, b, u.2 _ _ b k⟩⟩
end Go.Proofs.YtanbifmcnkhdhaaGreatDoor
