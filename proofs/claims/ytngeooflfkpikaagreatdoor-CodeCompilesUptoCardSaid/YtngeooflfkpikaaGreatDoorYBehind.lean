/-
  Where an expression ends, told by indices. Of no program.
-/
import Derived.Test.YtngeooflfkpikaaGreatDoorYTreeEx
namespace Go.Proofs.YtngeooflfkpikaaGreatDoor
def atV : Option Nat → Int
  | none => -1
  | some k => (k : Int)
/-- where the expression ends that begins at a place -/
noncomputable def nextI (d : Nat) (l : List Nod) : Option Nat → Option Nat
  | none => none
  | some k => (exF d (l.drop k)).map fun x => l.length - x.2.length
theorem nextI_eq (d : Nat) (l : List Nod) (k : Nat) : nextI d l (some k) = (exF d (l.drop k)).map fun x => l.length - x.2.length := rfl
/-- where so many of them end -/
noncomputable def iterI (d : Nat) (l : List Nod) : Nat → Option Nat → Option Nat
  | 0, o => o
  | j + 1, o => iterI d l j (nextI d l o)
theorem iterI_none (d : Nat) (l : List Nod) : ∀ j, iterI d l j none = none
  | 0 => rfl
  | j + 1 => iterI_none d l j
theorem suffix_at {l r s : List Nod} {k : Nat} (h : l.drop k = s ++ r) (hk : k ≤ l.length) : r = l.drop (l.length - r.length) ∧ l.length - r.length = k + s.length ∧ r.length ≤ l.length := by
  have hl := congrArg List.length h
  rw [List.length_drop, List.length_append] at hl
  have e : l.length - r.length = k + s.length := by omega
  refine ⟨?_, e, by omega⟩
  rw [e, ← List.drop_drop, h, List.drop_left]
theorem nextI_some {d : Nat} {l : List Nod} {k k' : Nat} (h : nextI d l (some k) = some k') (hk : k ≤ l.length) : k < k' ∧ k' ≤ l.length ∧ ∃ e, exF d (l.drop k) = some (e, l.drop k') ∧ k' = k + e.flat.length := by
  rw [nextI_eq] at h
  cases hx : exF d (l.drop k) with
  | none => rw [hx] at h; cases h
  | some x =>
    obtain ⟨e, r⟩ := x
    rw [hx] at h
    simp only [Option.map_some, Option.some.injEq] at h
    obtain ⟨_, hl⟩ := exF_iff.1 hx
    obtain ⟨h1, h2, h3⟩ := suffix_at hl hk
    have := e.flat_pos
    rw [h] at h1 h2
    exact ⟨by omega, by omega, e, by rw [← h1], h2⟩
theorem nextI_end {d : Nat} {l : List Nod} {k : Nat} (h : l.length ≤ k) : nextI d l (some k) = none := by
  rw [nextI_eq, List.drop_eq_nil_of_le h, exF_nil]
  rfl
theorem nextI_of {d : Nat} {l : List Nod} {k : Nat} {e : Ex} {r : List Nod} (h : exF d (l.drop k) = some (e, r)) : nextI d l (some k) = some (l.length - r.length) := by
  rw [nextI_eq, h]; rfl
theorem nextI_no {d : Nat} {l : List Nod} {k : Nat} (h : exF d (l.drop k) = none) : nextI d l (some k) = none := by
  rw [nextI_eq, h]; rfl
theorem iterI_exs (d : Nat) (l : List Nod) : ∀ (j k : Nat), k ≤ l.length → iterI d l j (some k) = (exsF d j (l.drop k)).map fun x => l.length - x.2.length
  | 0, k, hk => by
    rw [exsF_zero]
    simp only [iterI, Option.map_some, List.length_drop, Option.some.injEq]
    omega
  | j + 1, k, hk => by
    rw [iterI, exsF_succ]
    cases hx : exF d (l.drop k) with
    | none =>
      rw [nextI_no hx, iterI_none]
      rfl
    | some x =>
      obtain ⟨e, r⟩ := x
      obtain ⟨_, hl⟩ := exF_iff.1 hx
      obtain ⟨h1, h2, h3⟩ := suffix_at hl hk
      rw [nextI_of hx, iterI_exs d l j _ (by omega), ← h1]
      simp only
      cases exsF d j r with
      | none => rfl
      | some y => rfl
/-- the end of an expression, by its first node -/
theorem nextI_cons {d : Nat} {l : List Nod} {k : Nat} {n : Nod} (h : l[k]? = some n) : nextI d l (some k) =
    if (¬ (1 ≤ n.op ∧ n.op ≤ 9) ∨ rightN n = false) ∨ n.op = 9 ∨ (d = 0 ∧ (n.op = 4 ∨ n.op = 5 ∨ n.aop = 7)) then none
    else if n.op = 8 then iterI d l (n.n.toNat + 1) (some (k + 1))
    else if n.op = 6 then nextI d l (if n.aop = 6 then iterI (d + 1) l (2 * n.n.toNat + 1) (some (k + 1)) else some (k + 1))
    else if n.op = 7 then nextI d l (if n.aop = 6 then iterI (d + 1) l (2 * n.n.toNat + 1) (nextI d l (some (k + 1))) else nextI d l (some (k + 1)))
    else some (k + 1) := by
  obtain ⟨hk, hn⟩ := List.getElem?_eq_some_iff.1 h
  have hdr : l.drop k = n :: l.drop (k + 1) := by rw [← hn]; exact List.drop_eq_getElem_cons hk
  have hlen : l.length - (l.drop (k + 1)).length = k + 1 := by rw [List.length_drop]; omega
  have hk1 : k + 1 ≤ l.length := hk
  have hun : nextI d l (some k) = (exF d (n :: l.drop (k + 1))).map fun x => l.length - x.2.length := by rw [← hdr]; rfl
  rw [hun, exF_cons]
  clear hun
  -- what is written out of a function
  have hfun : ∀ m, m ≤ l.length → ¬ (n.aop = 7 ∧ d = 0) → (if n.aop = 6 then iterI (d + 1) l (2 * n.n.toNat + 1) (some m) else some m) = (funF d n (l.drop m)).map fun x => l.length - x.2.length := fun m hm h7 => by
    unfold funF bodyN
    rw [if_neg h7]
    by_cases h6 : n.aop = 6
    · rw [if_pos h6, if_pos h6, iterI_exs _ _ _ _ hm]
    · rw [if_neg h6, if_neg h6, exsF_zero]
      simp only [Option.map_some, List.length_drop, Option.some.injEq]
      omega
  have hfe : ∀ m, m ≤ l.length → ¬ (n.aop = 7 ∧ d = 0) → nextI d l (if n.aop = 6 then iterI (d + 1) l (2 * n.n.toNat + 1) (some m) else some m) = (match funF d n (l.drop m) with
      | none => none
      | some (_, r) => match exF d r with
        | none => none
        | some (_, r') => some (l.length - r'.length)) := fun m hm h7 => by
    rw [hfun m hm h7]
    cases hf : funF d n (l.drop m) with
    | none => rfl
    | some x =>
      obtain ⟨b, r⟩ := x
      obtain ⟨_, _, _, hl⟩ := funF_iff.1 hf
      obtain ⟨h1, h2, h3⟩ := suffix_at hl hm
      simp only [Option.map_some, nextI]
      rw [← h1]
      cases exF d r with
      | none => rfl
      | some y => rfl
  by_cases hr : rightN n = false
  · rw [if_pos hr, if_pos (.inl (.inr hr))]
    rfl
  rw [if_neg hr]
  have hra : n.aop = 7 → n.op = 6 ∨ n.op = 7 := fun h7 => by
    have hr' : rightN n = true := by simpa using hr
    by_cases h67 : n.op = 6 ∨ n.op = 7
    · exact h67
    exfalso
    unfold rightN at hr'
    rw [Bool.and_eq_true] at hr'
    have := hr'.2
    split at this
    · have := of_decide_eq_true this; omega
    · have := of_decide_eq_true this; omega
  by_cases h13 : n.op = 1 ∨ n.op = 2 ∨ n.op = 3
  · rw [if_pos h13, if_neg (by
      rintro ((h | h) | h | ⟨_, h⟩)
      · omega
      · exact hr h
      · omega
      · have := hra; omega), if_neg (by omega), if_neg (by omega), if_neg (by omega)]
    simp only [Option.map_some, hlen]
  rw [if_neg h13]
  by_cases h45 : n.op = 4 ∨ n.op = 5
  · rw [if_pos h45]
    by_cases hd : d = 0
    · rw [if_pos hd, if_pos (.inr (.inr ⟨hd, by omega⟩))]
      rfl
    · rw [if_neg hd, if_neg (by
        rintro ((h | h) | h | ⟨h, _⟩)
        · omega
        · exact hr h
        · omega
        · exact hd h), if_neg (by omega), if_neg (by omega), if_neg (by omega)]
      simp only [Option.map_some, hlen]
  rw [if_neg h45]
  by_cases h6 : n.op = 6
  · rw [if_pos h6]
    by_cases h7 : n.aop = 7 ∧ d = 0
    · rw [if_pos (.inr (.inr ⟨h7.2, .inr (.inr h7.1)⟩))]
      unfold funF
      rw [if_pos h7]
      rfl
    · rw [if_neg (by
        rintro ((h | h) | h | ⟨h, h'⟩)
        · omega
        · exact hr h
        · omega
        · omega), if_neg (by omega), if_pos h6, hfe _ hk1 h7]
      cases funF d n (l.drop (k + 1)) with
      | none => rfl
      | some x =>
        obtain ⟨b, r⟩ := x
        simp only
        cases exF d r with
        | none => rfl
        | some y => rfl
  rw [if_neg h6]
  by_cases h7o : n.op = 7
  · rw [if_pos h7o]
    by_cases h7 : n.aop = 7 ∧ d = 0
    · rw [if_pos (.inr (.inr ⟨h7.2, .inr (.inr h7.1)⟩))]
      unfold funF
      cases exF d (l.drop (k + 1)) with
      | none => rfl
      | some x =>
        simp only
        rw [if_pos h7]
        rfl
    · rw [if_neg (by
        rintro ((h | h) | h | ⟨h, h'⟩)
        · omega
        · exact hr h
        · omega
        · omega), if_neg (by omega), if_neg h6, if_pos h7o]
      cases hx : exF d (l.drop (k + 1)) with
      | none =>
        rw [nextI_no hx]
        simp only [Option.map_none, iterI_none, ite_self]
        rfl
      | some x =>
        obtain ⟨e, r⟩ := x
        obtain ⟨_, hl⟩ := exF_iff.1 hx
        obtain ⟨h1, h2, h3⟩ := suffix_at hl hk1
        rw [nextI_of hx, hfe _ (by omega) h7, ← h1]
        simp only
        cases funF d n r with
        | none => rfl
        | some y =>
          obtain ⟨b, r2⟩ := y
          simp only
          cases exF d r2 with
          | none => rfl
          | some z => rfl
  rw [if_neg h7o]
  by_cases h8 : n.op = 8
  · rw [if_pos h8, if_neg (by
      rintro ((h | h) | h | ⟨_, h⟩)
      · omega
      · exact hr h
      · omega
      · have := hra; omega), if_pos h8, iterI]
    cases hx : exF d (l.drop (k + 1)) with
    | none =>
      rw [nextI_no hx, iterI_none]
      rfl
    | some x =>
      obtain ⟨e, r⟩ := x
      obtain ⟨_, hl⟩ := exF_iff.1 hx
      obtain ⟨h1, h2, h3⟩ := suffix_at hl hk1
      rw [nextI_of hx, iterI_exs _ _ _ _ (by omega), ← h1]
      simp only
      cases exsF d n.n.toNat r with
      | none => rfl
      | some y => rfl
  · rw [if_neg h8, if_pos (by omega)]
    rfl
/-- the same, by what it looks at -/
noncomputable def nextQ (d : Nat) (l : List Nod) (k : Nat) (op aop n : Int) (r : Bool) : Option Nat :=
    if (¬ (1 ≤ op ∧ op ≤ 9) ∨ r = false) ∨ op = 9 ∨ (d = 0 ∧ (op = 4 ∨ op = 5 ∨ aop = 7)) then none
    else if op = 8 then iterI d l (n.toNat + 1) (some (k + 1))
    else if op = 6 then nextI d l (if aop = 6 then iterI (d + 1) l (2 * n.toNat + 1) (some (k + 1)) else some (k + 1))
    else if op = 7 then nextI d l (if aop = 6 then iterI (d + 1) l (2 * n.toNat + 1) (nextI d l (some (k + 1))) else nextI d l (some (k + 1)))
    else some (k + 1)
theorem nextI_at {d : Nat} {l : List Nod} {k : Nat} {n : Nod} (h : l[k]? = some n) : nextI d l (some k) = nextQ d l k n.op n.aop n.n (rightN n) := nextI_cons h
theorem nextQ_bad {d : Nat} {l : List Nod} {k : Nat} {op aop n : Int} {r : Bool} (h : (¬ (1 ≤ op ∧ op ≤ 9) ∨ r = false) ∨ op = 9 ∨ (d = 0 ∧ (op = 4 ∨ op = 5 ∨ aop = 7))) : nextQ d l k op aop n r = none := if_pos h
end Go.Proofs.YtngeooflfkpikaaGreatDoor
