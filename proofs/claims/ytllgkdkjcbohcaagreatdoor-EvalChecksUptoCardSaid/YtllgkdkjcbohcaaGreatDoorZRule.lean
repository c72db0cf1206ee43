/-
  A logic of walks, of no program: what is known of the slots is a list, what is known of memory is a list of things that lie apart; each operation is one lemma.
  The logic of walks: one lemma an operation, one a piece of code. Of no program.
  Small lemmas of no program: slices of ints that read as lists; frames; errors as values. Proved for any program P.
-/
import Derived.WalkKit
import Derived.WalkSpells
import Derived.Deep.QuietTactic
import Derived.Lib.Hide
import Derived.Deep.Slices
import Derived.WalkLawsBesides
import Derived.BigQuiet
import Derived.LoopTactic
import Derived.Deep.LoopGhost
import Derived.Deep.DeepCutAuto
import Derived.Deep.RegionHeld3
import Derived.Lib.OthersKept
namespace Go.Proofs.YtllgkdkjcbohcaaGreatDoor
open Go.RowKit
/-! ## what is known of a frame's slots -/
abbrev Env := List (Nat × Value)
def Env.find : Env → Nat → Option Value
  | [], _ => none
  | (k, v) :: r, n => match Nat.beq k n with
    | true => some v
    | false => Env.find r n
structure Fits (N : Nat) (D : List Deferred) (a : Act) (ρ : Env) : Prop where
  size : a.tmps.size = N
  defs : a.defers = D
  get : ∀ n v, ρ.find n = some v → a.tmps.getD n undef = v
def opv (ρ : Env) : Operand → Option Value
  | .tmp t => ρ.find t
  | .const v => some v
  | .global g => some (.pointer (some ⟨g, 0, none⟩))
  | .func f => some (.func (.func f) #[] #[])
theorem Fits.eval {N : Nat} {D : List Deferred} {a : Act} {ρ : Env} (h : Fits N D a ρ) {x : Operand} {v : Value} (hx : opv ρ x = some v) : a.eval x = v := by
  cases x with
  | tmp t => exact h.get t v hx
  | const c => simpa [opv, Act.eval] using hx
  | global g => simpa [opv, Act.eval] using hx
  | func f => simpa [opv, Act.eval] using hx
theorem find_cons (k n : Nat) (v : Value) (ρ : Env) : Env.find ((k, v) :: ρ) n = if k = n then some v else Env.find ρ n := by
  simp only [Env.find]
  by_cases h : k = n
  · subst h; simp
  · have : Nat.beq k n = false := by
      cases hb : Nat.beq k n with
      | false => rfl
      | true => exact absurd (Nat.eq_of_beq_eq_true hb) h
    rw [this, if_neg h]
theorem Fits.put {N : Nat} {D : List Deferred} {a : Act} {ρ : Env} (h : Fits N D a ρ) {d : Nat} (hd : d < N) (v : Value) : Fits N D (a.put (some d) v) ((d, v) :: ρ) := by
  refine ⟨by simp [Act.put, h.size], h.defs, fun n u hu => ?_⟩
  rw [find_cons] at hu
  have hsz := h.size
  simp only [Act.put]
  by_cases hn : d = n
  · subst hn
    rw [if_pos rfl] at hu
    injection hu with hu
    subst hu
    simp [Array.getD, hsz, hd]
  · rw [if_neg hn] at hu
    have := h.get n u hu
    rw [← this]
    simp only [Array.getD_eq_getD_getElem?, Array.getElem?_setIfInBounds, hn, if_false]
theorem Fits.put_none {N : Nat} {D : List Deferred} {a : Act} {ρ : Env} (h : Fits N D a ρ) (v : Value) : Fits N D (a.put none v) ρ := h
/-- all that the second list knows the first one knows -/
def Cov (ρ ρ' : Env) : Prop := ∀ n v, ρ'.find n = some v → ρ.find n = some v
theorem Cov.nil {ρ : Env} : Cov ρ [] := fun _ _ h => by simp [Env.find] at h
theorem Cov.cons {ρ r : Env} {n : Nat} {v v' : Value} (h : ρ.find n = some v') (e : v' = v) (k : Cov ρ r) : Cov ρ ((n, v) :: r) := fun m u hu => by
  rw [find_cons] at hu
  by_cases hn : n = m
  · subst hn; rw [if_pos rfl] at hu; rw [h, e]; exact hu
  · rw [if_neg hn] at hu; exact k m u hu
theorem Fits.cov {N : Nat} {D : List Deferred} {a : Act} {ρ ρ' : Env} (h : Fits N D a ρ) (c : Cov ρ ρ') : Fits N D a ρ' := ⟨h.size, h.defs, fun n v hv => h.get n v (c n v hv)⟩
/-! ## what is known of memory -/
/-- a thing in memory, with the blocks that it lies in -/
structure HP where
  p : World → List Nat → Prop
  st : ∀ w w' fp, (∀ i ∈ fp, w'.heap[i]? = w.heap[i]?) → p w fp → p w' fp
  lt : ∀ w fp, p w fp → ∀ i ∈ fp, i < w.heap.size
def Own : List HP → List Nat → World → Prop
  | [], fp, _ => fp = []
  | h :: r, fp, w => ∃ f1 f2, fp = f1 ++ f2 ∧ h.p w f1 ∧ Own r f2 w ∧ ∀ i ∈ f1, i ∉ f2
/-- of what was there at w0 nothing has turned but what lies in F -/
structure Keep (w0 : World) (F : List Nat) (w : World) : Prop where
  os : w.os = w0.os
  tape : w.tape = w0.tape
  output : w.output = w0.output
  size : w0.heap.size ≤ w.heap.size
  block : ∀ k, k < w0.heap.size → k ∉ F → w.heap[k]? = w0.heap[k]?
structure Holds (w0 : World) (F : List Nat) (m : List HP) (w : World) : Prop where
  keep : Keep w0 F w
  own : ∃ fp, Own m fp w ∧ ∀ i ∈ fp, i < w0.heap.size → i ∈ F
theorem Own.lt : ∀ {m : List HP} {fp : List Nat} {w : World}, Own m fp w → ∀ i ∈ fp, i < w.heap.size
  | [], fp, w, h, i, hi => by simp only [Own] at h; subst h; cases hi
  | h :: r, fp, w, ho, i, hi => by
    obtain ⟨f1, f2, rfl, h1, h2, _⟩ := ho
    rcases List.mem_append.1 hi with hi | hi
    · exact h.lt _ _ h1 i hi
    · exact Own.lt h2 i hi
theorem Own.keep : ∀ {m : List HP} {fp : List Nat} {w w' : World}, Own m fp w → (∀ i ∈ fp, w'.heap[i]? = w.heap[i]?) → Own m fp w'
  | [], _, _, _, h, _ => h
  | h :: r, fp, w, w', ho, hk => by
    obtain ⟨f1, f2, rfl, h1, h2, hd⟩ := ho
    exact ⟨f1, f2, rfl, h.st _ _ _ (fun i hi => hk i (List.mem_append.2 (.inl hi))) h1, Own.keep h2 (fun i hi => hk i (List.mem_append.2 (.inr hi))), hd⟩
theorem Keep.refl (w : World) (F : List Nat) : Keep w F w := ⟨rfl, rfl, rfl, Nat.le_refl _, fun _ _ _ => rfl⟩
theorem Keep.below {w0 w w' : World} {F : List Nat} (h : Keep w0 F w) (hb : Below w.heap.size w w') : Keep w0 F w' :=
  ⟨hb.os.trans h.os, hb.tape.trans h.tape, hb.output.trans h.output, Nat.le_trans h.size hb.size, fun k hk hF => (hb.block k (Nat.lt_of_lt_of_le hk h.size)).trans (h.block k hk hF)⟩
theorem Keep.toBelow {w0 w : World} (h : Keep w0 [] w) : Below w0.heap.size w0 w := ⟨h.os, h.tape, h.output, h.size, fun k hk => h.block k hk (by simp)⟩
theorem Keep.ofBelow {w0 w : World} {F : List Nat} (h : Below w0.heap.size w0 w) : Keep w0 F w := ⟨h.os, h.tape, h.output, h.size, fun k hk _ => h.block k hk⟩
theorem Holds.below {w0 w : World} {m : List HP} (h : Holds w0 [] m w) : Below w0.heap.size w0 w := h.keep.toBelow
theorem Holds.size {w0 w : World} {F : List Nat} {m : List HP} (h : Holds w0 F m w) : w0.heap.size ≤ w.heap.size := h.keep.size
theorem Holds.nil (w : World) (F : List Nat) : Holds w F [] w := ⟨Keep.refl _ _, [], rfl, by simp⟩
theorem Holds.start {w : World} {fp : List Nat} {m : List HP} (h : Own m fp w) : Holds w fp m w := ⟨Keep.refl _ _, fp, h, fun _ hi _ => hi⟩
/-- a step that leaves all blocks as they were -/
theorem Holds.grow {w0 w w' : World} {F : List Nat} {m : List HP} (h : Holds w0 F m w) (hb : Below w.heap.size w w') : Holds w0 F m w' := by
  obtain ⟨fp, ho, hF⟩ := h.own
  exact ⟨h.keep.below hb, fp, ho.keep (fun i hi => hb.block i (ho.lt i hi)), hF⟩
theorem Holds.drew {w0 w : World} {F : List Nat} {m : List HP} (h : Holds w0 F m w) : Holds w0 F m w.drew := h.grow ((Below.refl _ _).drew)
/-- one of the things, taken out -/
inductive Pick : List HP → HP → List HP → Prop
  | here {h : HP} {r : List HP} : Pick (h :: r) h r
  | there {h x : HP} {m r : List HP} : Pick m h r → Pick (x :: m) h (x :: r)
theorem Pick.own {m r : List HP} {h : HP} (hp : Pick m h r) : ∀ {fp : List Nat} {w : World}, Own m fp w → ∃ f1 f2, (∀ i, i ∈ fp ↔ i ∈ f1 ∨ i ∈ f2) ∧ h.p w f1 ∧ Own r f2 w ∧ ∀ i ∈ f1, i ∉ f2 := by
  induction hp with
  | here =>
    rintro fp w ⟨f1, f2, rfl, h1, h2, hd⟩
    exact ⟨f1, f2, fun i => List.mem_append, h1, h2, hd⟩
  | there hp ih =>
    rintro fp w ⟨f1, f2, rfl, h1, h2, hd⟩
    obtain ⟨g1, g2, he, k1, k2, kd⟩ := ih h2
    refine ⟨g1, f1 ++ g2, fun i => ?_, k1, ⟨f1, g2, rfl, h1, k2, fun i hi hg => hd i hi ((he i).2 (.inr hg))⟩, fun i hi hg => ?_⟩
    · rw [List.mem_append, List.mem_append, he]
      constructor
      · rintro (a | a | a) <;> simp [a]
      · rintro (a | a | a) <;> simp [a]
    · rcases List.mem_append.1 hg with hg | hg
      · exact hd i hg ((he i).2 (.inl hi))
      · exact kd i hi hg
theorem Own.cons {h : HP} {r : List HP} {f1 f2 : List Nat} {w : World} (h1 : h.p w f1) (h2 : Own r f2 w) (hd : ∀ i ∈ f1, i ∉ f2) : Own (h :: r) (f1 ++ f2) w := ⟨f1, f2, rfl, h1, h2, hd⟩
/-- the one thing may have turned, and new blocks may have come: what was it is now m1 -/
theorem Holds.turn {w0 w w' : World} {F : List Nat} {m r m1 : List HP} {h : HP} (hh : Holds w0 F m w) (hp : Pick m h r)
    (k : ∀ f1, h.p w f1 → Keep w f1 w' ∧ ∃ g1, Own m1 g1 w' ∧ ∀ i ∈ g1, i < w.heap.size → i ∈ f1) : Holds w0 F (m1 ++ r) w' := by
  obtain ⟨fp, ho, hF⟩ := hh.own
  obtain ⟨f1, f2, he, k1, k2, kd⟩ := hp.own ho
  obtain ⟨kk, g1, hg, hgl⟩ := k f1 k1
  have hlt2 := k2.lt
  refine ⟨⟨kk.os.trans hh.keep.os, kk.tape.trans hh.keep.tape, kk.output.trans hh.keep.output, Nat.le_trans hh.keep.size kk.size, fun i hi hF' => ?_⟩, g1 ++ f2, ?_, fun i hi hi0 => ?_⟩
  · rw [kk.block i (Nat.lt_of_lt_of_le hi hh.keep.size) (fun hf => hF' (hF i ((he i).2 (.inl hf)) hi))]
    exact hh.keep.block i hi hF'
  · have h2 : Own r f2 w' := k2.keep (fun i hi => kk.block i (hlt2 i hi) (fun hf => kd i hf hi))
    have hdd : ∀ i ∈ g1, i ∉ f2 := fun i hi h2 => kd i (hgl i hi (hlt2 i h2)) h2
    clear hgl k
    revert hdd
    induction m1 generalizing g1 with
    | nil => intro hdd; simp only [Own] at hg; subst hg; simpa using h2
    | cons x m1 ih =>
      intro hdd
      obtain ⟨a, b, rfl, ha, hb, hab⟩ := hg
      have := ih b hb (fun i hi => hdd i (List.mem_append.2 (.inr hi)))
      rw [List.append_assoc]
      refine ⟨a, b ++ f2, rfl, ha, this, fun i hi hi2 => ?_⟩
      rcases List.mem_append.1 hi2 with h | h
      · exact hab i hi h
      · exact hdd i (List.mem_append.2 (.inl hi)) h
  · rcases List.mem_append.1 hi with hi | hi
    · exact hF i ((he i).2 (.inl (hgl i hi (Nat.lt_of_lt_of_le hi0 hh.keep.size)))) hi0
    · exact hF i ((he i).2 (.inr hi)) hi0
theorem Own.app : ∀ {m1 r : List HP} {g1 f2 : List Nat} {w : World}, Own m1 g1 w → Own r f2 w → (∀ i ∈ g1, i ∉ f2) → Own (m1 ++ r) (g1 ++ f2) w
  | [], r, g1, f2, w, hg, h2, _ => by simp only [Own] at hg; subst hg; simpa using h2
  | x :: m1, r, g1, f2, w, hg, h2, hd => by
    obtain ⟨a, b, rfl, ha, hb, hab⟩ := hg
    have := Own.app hb h2 (fun i hi => hd i (List.mem_append.2 (.inr hi)))
    show Own (x :: (m1 ++ r)) (a ++ b ++ f2) w
    rw [List.append_assoc]
    refine ⟨a, b ++ f2, rfl, ha, this, fun i hi hi2 => ?_⟩
    rcases List.mem_append.1 hi2 with h | h
    · exact hab i hi h
    · exact hd i (List.mem_append.2 (.inl hi)) h
/-- a call that turned nothing has made things -/
theorem Holds.add {w0 w w' : World} {F : List Nat} {m m1 : List HP} (h : Holds w0 F m w) (k : Holds w [] m1 w') : Holds w0 F (m1 ++ m) w' := by
  obtain ⟨fp, ho, hF⟩ := h.own
  obtain ⟨g, hg, hgl⟩ := k.own
  refine ⟨h.keep.below k.below, g ++ fp, Own.app hg (ho.keep fun i hi => k.below.block i (ho.lt i hi)) (fun i hi hi2 => ?_), fun i hi hi0 => ?_⟩
  · exact absurd (hgl i hi (ho.lt i hi2)) (by simp)
  · rcases List.mem_append.1 hi with hi | hi
    · exact absurd (hgl i hi (Nat.lt_of_lt_of_le hi0 h.keep.size)) (by simp)
    · exact hF i hi hi0
/-- m holds all that m' says -/
def Ent (m m' : List HP) : Prop := ∀ fp w, Own m fp w → ∃ fp', Own m' fp' w ∧ ∀ i ∈ fp', i ∈ fp
theorem Ent.nil {m : List HP} : Ent m [] := fun _ _ _ => ⟨[], rfl, by simp⟩
theorem Ent.refl {m : List HP} : Ent m m := fun fp _ h => ⟨fp, h, fun _ h => h⟩
theorem Ent.cons {m r m' : List HP} {h : HP} (hp : Pick m h r) (k : Ent r m') : Ent m (h :: m') := fun fp w ho => by
  obtain ⟨f1, f2, he, k1, k2, kd⟩ := hp.own ho
  obtain ⟨f3, h3, hs⟩ := k f2 w k2
  refine ⟨f1 ++ f3, ⟨f1, f3, rfl, k1, h3, fun i hi h => kd i hi (hs i h)⟩, fun i hi => ?_⟩
  rcases List.mem_append.1 hi with hi | hi
  · exact (he i).2 (.inl hi)
  · exact (he i).2 (.inr (hs i hi))
theorem Holds.ent {w0 w : World} {F : List Nat} {m m' : List HP} (h : Holds w0 F m w) (e : Ent m m') : Holds w0 F m' w := by
  obtain ⟨fp, ho, hF⟩ := h.own
  obtain ⟨fp', ho', hs⟩ := e fp w ho
  exact ⟨h.keep, fp', ho', fun i hi => hF i (hs i hi)⟩
theorem Holds.pick {w0 w : World} {F : List Nat} {m r : List HP} {h : HP} (hh : Holds w0 F m w) (hp : Pick m h r) : ∃ fp, h.p w fp := by
  obtain ⟨fp, ho, _⟩ := hh.own
  obtain ⟨f1, _, _, k1, _⟩ := hp.own ho
  exact ⟨f1, k1⟩
/-- a whole block -/
def blk (b : Nat) (T : TypeId) (cs : Array Value) : HP where
  p w fp := fp = [b] ∧ w.heap[b]? = some (.cells cs T (0, 0))
  st w w' fp h := by rintro ⟨rfl, hb⟩; exact ⟨rfl, (h b (by simp)).trans hb⟩
  lt w fp := by
    rintro ⟨rfl, hb⟩ i hi
    have : i = b := by simpa using hi
    subst this
    exact (Array.getElem?_eq_some_iff.1 hb).1
theorem Holds.blk {w0 w : World} {F : List Nat} {m r : List HP} {b : Nat} {T : TypeId} {cs : Array Value} (hh : Holds w0 F m w) (hp : Pick m (blk b T cs) r) : w.heap[b]? = some (.cells cs T (0, 0)) := by
  obtain ⟨_, _, h⟩ := hh.pick hp
  exact h
theorem Holds.new {w0 w : World} {F : List Nat} {m : List HP} (h : Holds w0 F m w) (T : TypeId) (cs : Array Value) : Holds w0 F (Go.Proofs.YtllgkdkjcbohcaaGreatDoor.blk w.heap.size T cs :: m) (w.alloc (.cells cs T)) := by
  refine Holds.add (m1 := [Go.Proofs.YtllgkdkjcbohcaaGreatDoor.blk w.heap.size T cs]) h ⟨Keep.ofBelow ((Below.refl _ _).alloc (Nat.le_refl _) _), [w.heap.size], ⟨[w.heap.size], [], rfl, ⟨rfl, ?_⟩, rfl, by simp⟩, fun i hi hl => ?_⟩
  · show (w.heap.push _)[w.heap.size]? = _
    simp
  · have : i = w.heap.size := by simpa using hi
    omega
theorem Holds.set {w0 w : World} {F : List Nat} {m r : List HP} {b : Nat} {T : TypeId} {cs : Array Value} (h : Holds w0 F m w) (hp : Pick m (Go.Proofs.YtllgkdkjcbohcaaGreatDoor.blk b T cs) r) (i : Nat) (v : Value) :
    Holds w0 F (Go.Proofs.YtllgkdkjcbohcaaGreatDoor.blk b T (cs.setIfInBounds i v) :: r) (w.setCell ⟨b, i, none⟩ v) := by
  refine h.turn (m1 := [Go.Proofs.YtllgkdkjcbohcaaGreatDoor.blk b T (cs.setIfInBounds i v)]) hp fun f1 hf => ?_
  obtain ⟨rfl, hb⟩ := hf
  refine ⟨⟨rfl, rfl, rfl, by simp [World.setCell], fun k _ hF => Below.heap_setCell _ _ _ _ (by simpa using hF)⟩, [b], ⟨[b], [], rfl, ⟨rfl, ?_⟩, rfl, by simp⟩, fun i hi _ => hi⟩
  simp [World.setCell, Array.getElem?_modify, hb]
end Go.Proofs.YtllgkdkjcbohcaaGreatDoor
namespace Go.Proofs.YtllgkdkjcbohcaaGreatDoor
open Go.RowKit
/-- what stays the same through a function: how many slots, what is deferred, the world at its beginning, which old blocks may turn -/
structure Cx where
  N : Nat
  D : List Deferred
  w0 : World
  F : List Nat
structure CW (P : Program) (K : Cx) (Q : Exit → Act → World → Prop) (c : Code) (ρ : Env) (m : List HP) : Prop where
  run : ∀ a w, Fits K.N K.D a ρ → Holds K.w0 K.F m w → c.wp P Q a w
structure WL (P : Program) (K : Cx) (ops : Array Oper) (Q : Exit → Act → World → Prop) (l : List Oper) (ρ : Env) (m : List HP) : Prop where
  run : ∀ a w, Fits K.N K.D a ρ → Holds K.w0 K.F m w → wpList P ops Q l a w
structure WQ (P : Program) (K : Cx) (ops : Array Oper) (L : Act → Prop) (l : List Oper) (ρ : Env) (m : List HP) : Prop where
  run : ∀ a, Fits K.N K.D a ρ → wpQuiet P ops (Holds K.w0 K.F m) L l a
structure EX (K : Cx) (Q : Exit → Act → World → Prop) (e : Exit) (ρ : Env) (m : List HP) : Prop where
  run : ∀ a w, Fits K.N K.D a ρ → Holds K.w0 K.F m w → Q e a w
/-- does the operation's guard say yes? -/
def guardB (ops : Array Oper) (g : Option (Nat × Bool)) (ρ : Env) : Option Bool :=
  match g with
  | none => some true
  | some (j, want) => match (ops[j]?).bind (·.dst) with
    | none => none
    | some d => match ρ.find d with
      | some (.bool b) => some (b == want)
      | some (.tuple _) => some false
      | _ => none
theorem guard_wanted {N : Nat} {D : List Deferred} {a : Act} {ρ : Env} (h : Fits N D a ρ) {ops : Array Oper} {o : Oper} {b : Bool} (hg : guardB ops o.guard ρ = some b) (hN : ∀ j w d, o.guard = some (j, w) → (ops[j]?).bind (·.dst) = some d → d < N) :
    Region.wanted o (yielded ops a.tmps) = b := by
  unfold guardB at hg
  unfold Region.wanted
  cases hgd : o.guard with
  | none => rw [hgd] at hg; simpa using hg
  | some jw =>
    obtain ⟨j, want⟩ := jw
    rw [hgd] at hg
    simp only at hg ⊢
    cases hd : (ops[j]?).bind (·.dst) with
    | none => rw [hd] at hg; cases hg
    | some d =>
      have hdN := hN j want d hgd hd
      rw [hd] at hg
      simp only at hg
      cases hf : ρ.find d with
      | none => rw [hf] at hg; cases hg
      | some v =>
        have hv := h.get d v hf
        have ht : a.tmps[d]? = some v := by
          have hl : d < a.tmps.size := by rw [h.size]; exact hdN
          rw [Array.getElem?_eq_getElem hl]
          simpa [Array.getD, hl] using hv
        rw [hf] at hg
        unfold yielded
        rw [hd]
        simp only [Option.bind_some, ht]
        cases v <;> simp at hg ⊢
        · exact hg
        · exact hg
theorem blt_lt {d N : Nat} (h : Nat.blt d N = true) : d < N := Nat.le_of_ble_eq_true h
def guardN (N : Nat) (ops : Array Oper) (g : Option (Nat × Bool)) : Bool :=
  match g with
  | none => true
  | some (j, _) => match (ops[j]?).bind (·.dst) with
    | none => true
    | some d => Nat.blt d N
theorem guardN_spec {N : Nat} {ops : Array Oper} {g : Option (Nat × Bool)} (h : guardN N ops g = true) : ∀ j w d, g = some (j, w) → (ops[j]?).bind (·.dst) = some d → d < N := by
  rintro j w d rfl hd
  unfold guardN at h
  simp only [hd] at h
  exact blt_lt h
/-- the operation yields this value and leaves the world as it is -/
structure Yi (P : Program) (K : Cx) (ρ : Env) (m : List HP) (o : Oper) (v : Value) : Prop where
  run : ∀ a w, Fits K.N K.D a ρ → Holds K.w0 K.F m w → (execOp a.eval o).run P w = .ok (.value v) w
section structure_
variable {P : Program} {K : Cx} {ops : Array Oper} {Q : Exit → Act → World → Prop} {ρ : Env} {m : List HP} {rest : List Oper} {L : Act → Prop}
  {dst : Option Nat} {d : Nat} {op : Op} {ty : TypeId} {pos : String} {aft : Array Edge} {g : Option (Nat × Bool)} {v : Value}
theorem WL_nil (h : EX K Q .normal ρ m) : WL P K ops Q [] ρ m := ⟨fun a w hf hm => wpList_nil (h.run a w hf hm)⟩
theorem WL_yi (h : Yi P K ρ m ⟨some d, op, ty, pos, aft, g⟩ v) (hg : guardB ops g ρ = some true) (hn : (guardN K.N ops g && Nat.blt d K.N) = true) (k : WL P K ops Q rest ((d, v) :: ρ) m) :
    WL P K ops Q (⟨some d, op, ty, pos, aft, g⟩ :: rest) ρ m := by
  refine ⟨fun a w hf hm => ?_⟩
  simp only [Bool.and_eq_true] at hn
  unfold wpList
  rw [if_pos (guard_wanted hf hg (guardN_spec hn.1))]
  refine .inl ?_
  unfold Oper.wp
  rw [h.run a w hf hm, Oper.upon_value]
  exact k.run _ _ (hf.put (blt_lt hn.2) v) hm
theorem WL_op (hg : guardB ops g ρ = some true) (hn : (guardN K.N ops g && Nat.blt d K.N) = true) (h : Yi P K ρ m ⟨some d, op, ty, pos, aft, g⟩ v) (k : WL P K ops Q rest ((d, v) :: ρ) m) :
    WL P K ops Q (⟨some d, op, ty, pos, aft, g⟩ :: rest) ρ m := WL_yi h hg hn k
theorem WL_no (hg : guardB ops g ρ = some false) (hn : (guardN K.N ops g && Nat.blt d K.N) = true) (k : WL P K ops Q rest ((d, undef) :: ρ) m) :
    WL P K ops Q (⟨some d, op, ty, pos, aft, g⟩ :: rest) ρ m := by
  refine ⟨fun a w hf hm => ?_⟩
  simp only [Bool.and_eq_true] at hn
  unfold wpList
  rw [if_neg (by rw [guard_wanted hf hg (guardN_spec hn.1)]; simp)]
  exact k.run _ _ (hf.put (blt_lt hn.2) undef) hm
/-- a slot that holds a Bool, decided -/
theorem WL_split (n : Nat) {b : Bool} (h : ρ.find n = some (.bool b)) (ht : b = true → WL P K ops Q rest ((n, .bool true) :: ρ) m) (hf : b = false → WL P K ops Q rest ((n, .bool false) :: ρ) m) : WL P K ops Q rest ρ m := by
  refine ⟨fun a w hfi hm => ?_⟩
  have key : ∀ c, b = c → Fits K.N K.D a ((n, .bool c) :: ρ) := fun c hc => hfi.cov (Cov.cons h (by rw [hc]) (fun _ _ h => h))
  cases b with
  | true => exact (ht rfl).run a w (key _ rfl) hm
  | false => exact (hf rfl).run a w (key _ rfl) hm
theorem WQ_nil (h : ∀ a, Fits K.N K.D a ρ → L a) : WQ P K ops L [] ρ m := ⟨fun a hf => wpQuiet_nil (h a hf)⟩
theorem WQ_yi (h : Yi P K ρ m ⟨some d, op, ty, pos, aft, g⟩ v) (hg : guardB ops g ρ = some true) (hn : (guardN K.N ops g && Nat.blt d K.N) = true) (k : WQ P K ops L rest ((d, v) :: ρ) m) :
    WQ P K ops L (⟨some d, op, ty, pos, aft, g⟩ :: rest) ρ m := by
  refine ⟨fun a hf => ?_⟩
  simp only [Bool.and_eq_true] at hn
  unfold wpQuiet
  rw [if_pos (guard_wanted hf hg (guardN_spec hn.1))]
  refine ⟨v, fun w hw => ?_, k.run _ (hf.put (blt_lt hn.2) v)⟩
  unfold Oper.quietAt
  rw [h.run a w hf hw]
  exact ⟨rfl, rfl⟩
theorem WQ_op (hg : guardB ops g ρ = some true) (hn : (guardN K.N ops g && Nat.blt d K.N) = true) (h : Yi P K ρ m ⟨some d, op, ty, pos, aft, g⟩ v) (k : WQ P K ops L rest ((d, v) :: ρ) m) :
    WQ P K ops L (⟨some d, op, ty, pos, aft, g⟩ :: rest) ρ m := WQ_yi h hg hn k
theorem WQ_no (hg : guardB ops g ρ = some false) (hn : (guardN K.N ops g && Nat.blt d K.N) = true) (k : WQ P K ops L rest ((d, undef) :: ρ) m) :
    WQ P K ops L (⟨some d, op, ty, pos, aft, g⟩ :: rest) ρ m := by
  refine ⟨fun a hf => ?_⟩
  simp only [Bool.and_eq_true] at hn
  unfold wpQuiet
  rw [if_neg (by rw [guard_wanted hf hg (guardN_spec hn.1)]; simp)]
  exact k.run _ (hf.put (blt_lt hn.2) undef)
theorem WQ_split (n : Nat) {b : Bool} (h : ρ.find n = some (.bool b)) (ht : b = true → WQ P K ops L rest ((n, .bool true) :: ρ) m) (hf : b = false → WQ P K ops L rest ((n, .bool false) :: ρ) m) : WQ P K ops L rest ρ m := by
  refine ⟨fun a hfi => ?_⟩
  have key : ∀ c, b = c → Fits K.N K.D a ((n, .bool c) :: ρ) := fun c hc => hfi.cov (Cov.cons h (by rw [hc]) (fun _ _ h => h))
  cases b with
  | true => exact (ht rfl).run a (key _ rfl)
  | false => exact (hf rfl).run a (key _ rfl)
/-! ## code -/
theorem CW_region {id : Nat} {l : List Oper} (h : WL P K l.toArray Q l ρ m) : CW P K Q (.region id l.toArray false) ρ m := ⟨fun a w hf hm => wp_region_lit (h.run a w hf hm)⟩
theorem CW_quiet {id : Nat} {l : List Oper} (hM : P.follows .mixedOrders = true) (hB : Region.lexB .any l.toArray = true) (h : WQ P K l.toArray (fun a => ∀ w, Holds K.w0 K.F m w → Q .normal a w) l ρ m) : CW P K Q (.region id l.toArray true) ρ m := ⟨fun a w hf hm =>
  wp_region_quiet hM hB hm.drew (by have := h.run a hf; simpa using this)⟩
theorem WQ_end {Q : Exit → Act → World → Prop} (h : EX K Q .normal ρ m) : WQ P K ops (fun a => ∀ w, Holds K.w0 K.F m w → Q .normal a w) [] ρ m := WQ_nil fun a hf w hw => h.run a w hf hw
theorem CW_ent {c : Code} {m' : List HP} (e : Ent m m') (h : CW P K Q c ρ m') : CW P K Q c ρ m := ⟨fun a w hf hm => h.run a w hf (hm.ent e)⟩
theorem WL_ent {m' : List HP} (e : Ent m m') (h : WL P K ops Q rest ρ m') : WL P K ops Q rest ρ m := ⟨fun a w hf hm => h.run a w hf (hm.ent e)⟩
theorem CW_skip (h : EX K Q .normal ρ m) : CW P K Q .skip ρ m := ⟨fun a w hf hm => wp_skip (h.run a w hf hm)⟩
theorem CW_ret (h : EX K Q .ret ρ m) : CW P K Q .ret ρ m := ⟨fun a w hf hm => wp_ret (h.run a w hf hm)⟩
theorem CW_exit {id : Nat} (h : EX K Q (.exit id) ρ m) : CW P K Q (.exit id) ρ m := ⟨fun a w hf hm => wp_exit (h.run a w hf hm)⟩
theorem CW_cond {c : Operand} {x y : Code} {b : Bool} (hc : opv ρ c = some (.bool b)) (ht : b = true → CW P K Q x ρ m) (hf : b = false → CW P K Q y ρ m) : CW P K Q (.cond c x y) ρ m := ⟨fun a w hfi hm =>
  wp_cond_split (hfi.eval hc) (fun h => (ht h).run a w hfi hm) (fun h => (hf h).run a w hfi hm)⟩
theorem CW_condT {c : Operand} {x y : Code} (hc : opv ρ c = some (.bool true)) (ht : CW P K Q x ρ m) : CW P K Q (.cond c x y) ρ m := ⟨fun a w hfi hm => wp_cond_true (hfi.eval hc) (ht.run a w hfi hm)⟩
theorem CW_condF {c : Operand} {x y : Code} (hc : opv ρ c = some (.bool false)) (hf : CW P K Q y ρ m) : CW P K Q (.cond c x y) ρ m := ⟨fun a w hfi hm => wp_cond_false (hfi.eval hc) (hf.run a w hfi hm)⟩
def QSeq (P : Program) (y : Code) (Q : Exit → Act → World → Prop) : Exit → Act → World → Prop := Exit.then (y.wp P Q) Q
def QBlk (id : Nat) (Q : Exit → Act → World → Prop) : Exit → Act → World → Prop := Exit.inBlock id Q
/-- what must hold where the ways meet -/
def QMid {X : Type} (K : Cx) (R : X → Env) (M : X → List HP) (I : X → Prop) (Q : Exit → Act → World → Prop) : Exit → Act → World → Prop := Exit.then (fun a w => ∃ x, I x ∧ Fits K.N K.D a (R x) ∧ Holds K.w0 K.F (M x) w) Q
theorem CW_seq {x y : Code} (h : CW P K (QSeq P y Q) x ρ m) : CW P K Q (.seq x y) ρ m := ⟨fun a w hf hm => wp_seq (h.run a w hf hm)⟩
theorem CW_block {id : Nat} {c : Code} (h : CW P K (QBlk id Q) c ρ m) : CW P K Q (.block id c) ρ m := ⟨fun a w hf hm => wp_block (h.run a w hf hm)⟩
theorem CW_cut {X : Type} (R : X → Env) (M : X → List HP) (I : X → Prop) {x y : Code} (h : CW P K (QMid K R M I Q) x ρ m) (k : ∀ z, I z → CW P K Q y (R z) (M z)) : CW P K Q (.seq x y) ρ m := by
  refine ⟨fun a w hf hm => ?_⟩
  refine wp_seq (wp_mono (h.run a w hf hm) fun e a' w' hq => ?_)
  cases e <;> first
    | exact hq
    | (obtain ⟨z, hz, hzf, hzm⟩ := hq; exact (k z hz).run _ _ hzf hzm)
/-- a loop: what a round begins with is R x, M x, I x; μ goes down -/
def QLoop {X : Type} (K : Cx) (R : X → Env) (M : X → List HP) (I : X → Prop) (μ : X → Nat) (x : X) (Q : Exit → Act → World → Prop) : Exit → Act → World → Prop :=
  Exit.then (fun a w => ∃ x', I x' ∧ μ x' < μ x ∧ Fits K.N K.D a (R x') ∧ Holds K.w0 K.F (M x') w) Q
theorem CW_loop {X : Type} (R : X → Env) (M : X → List HP) (I : X → Prop) (μ : X → Nat) (x0 : X) (h0 : I x0) (hρ : Cov ρ (R x0)) (hm : Ent m (M x0)) {c : Code}
    (round : ∀ x, I x → CW P K (QLoop K R M I μ x Q) c (R x) (M x)) : CW P K Q (.loop c) ρ m := by
  refine ⟨fun a w hf hh => ?_⟩
  have key : ∀ n x a w, μ x = n → I x → Fits K.N K.D a (R x) → Holds K.w0 K.F (M x) w → ∃ x', μ x' = n ∧ I x' ∧ Fits K.N K.D a (R x') ∧ Holds K.w0 K.F (M x') w := fun n x a w h1 h2 h3 h4 => ⟨x, h1, h2, h3, h4⟩
  clear key
  intro b k cs
  have loop : ∀ n x a w, μ x = n → I x → Fits K.N K.D a (R x) → Holds K.w0 K.F (M x) w →
      ∃ e a' w', Q e a' w' ∧ Arrives P (lone (b.at a (.code c :: .inLoop c :: k)) cs w) b k cs e a' w' := by
    intro n
    induction n using Nat.strongRecOn with
    | _ n ih =>
      intro x a w hn hI hfx hmx
      obtain ⟨e, a1, w1, hq, harr⟩ := (round x hI).run a w hfx hmx b (.inLoop c :: k) cs
      cases e with
      | normal =>
        obtain ⟨x', hI', hμ, hf', hm'⟩ := hq
        obtain ⟨e2, a2, w2, hq2, harr2⟩ := ih (μ x') (by omega) x' a1 w1 rfl hI' hf' hm'
        exact ⟨e2, a2, w2, hq2, .of_steps (Steps.trans harr (.one step_inLoop)) harr2⟩
      | exit id => exact ⟨_, a1, w1, hq, .pass (x := .inLoop c) rfl (fun _ _ => .inl (by simp)) harr⟩
      | goto l => exact ⟨_, a1, w1, hq, .pass (x := .inLoop c) rfl (fun _ _ => .inl (by simp)) harr⟩
      | ret => exact ⟨_, a1, w1, hq, .pass (x := .inLoop c) rfl (fun _ _ => .inl (by simp)) harr⟩
      | panic ch => exact ⟨_, a1, w1, hq, .pass (x := .inLoop c) rfl (fun _ _ => .inl (by simp)) harr⟩
      | outgrown => exact ⟨_, a1, w1, hq, .pass (x := .inLoop c) rfl (fun _ _ => .inl (by simp)) harr⟩
  obtain ⟨e, a', w', hq, harr⟩ := loop _ x0 a w rfl h0 (hf.cov hρ) (hh.ent hm)
  exact ⟨e, a', w', hq, .of_steps (.one step_loop) harr⟩
/-! ## ways out -/
theorem EX_seq {y : Code} (h : CW P K Q y ρ m) : EX K (QSeq P y Q) .normal ρ m := ⟨h.run⟩
theorem EX_seq_exit {y : Code} {id : Nat} (h : EX K Q (.exit id) ρ m) : EX K (QSeq P y Q) (.exit id) ρ m := ⟨h.run⟩
theorem EX_seq_ret {y : Code} (h : EX K Q .ret ρ m) : EX K (QSeq P y Q) .ret ρ m := ⟨h.run⟩
theorem EX_blk {id : Nat} (h : EX K Q .normal ρ m) : EX K (QBlk id Q) .normal ρ m := ⟨h.run⟩
theorem EX_blk_eq {id id' : Nat} (e : Nat.beq id' id = true) (h : EX K Q .normal ρ m) : EX K (QBlk id Q) (.exit id') ρ m := by
  refine ⟨fun a w hf hm => ?_⟩
  have : id' = id := Nat.eq_of_beq_eq_true e
  simp only [QBlk, Exit.inBlock, this, if_true]
  exact h.run a w hf hm
theorem EX_blk_ret {id : Nat} (h : EX K Q .ret ρ m) : EX K (QBlk id Q) .ret ρ m := ⟨h.run⟩
theorem EX_mid {X : Type} {R : X → Env} {M : X → List HP} {I : X → Prop} (x : X) (hI : I x) (hρ : Cov ρ (R x)) (hm : Ent m (M x)) : EX K (QMid K R M I Q) .normal ρ m := ⟨fun _ _ hf hh => ⟨x, hI, hf.cov hρ, hh.ent hm⟩⟩
theorem EX_loop {X : Type} {R : X → Env} {M : X → List HP} {I : X → Prop} {μ : X → Nat} {x : X} (x' : X) (hI : I x') (hμ : μ x' < μ x) (hρ : Cov ρ (R x')) (hm : Ent m (M x')) : EX K (QLoop K R M I μ x Q) .normal ρ m := ⟨fun _ _ hf hh => ⟨x', hI, hμ, hf.cov hρ, hh.ent hm⟩⟩
theorem EX_loop_exit {X : Type} {R : X → Env} {M : X → List HP} {I : X → Prop} {μ : X → Nat} {x : X} {id : Nat} (h : EX K Q (.exit id) ρ m) : EX K (QLoop K R M I μ x Q) (.exit id) ρ m := ⟨h.run⟩
theorem EX_loop_ret {X : Type} {R : X → Env} {M : X → List HP} {I : X → Prop} {μ : X → Nat} {x : X} (h : EX K Q .ret ρ m) : EX K (QLoop K R M I μ x Q) .ret ρ m := ⟨h.run⟩
/-! ## the function -/
def QBody (P : Program) (fn : Func) (R : Ending → World → Prop) : Exit → Act → World → Prop := bodyPost P fn R
def argEnv : Nat → List Value → Env
  | _, [] => []
  | n, v :: r => (n, v) :: argEnv (n + 1) r
theorem find_argEnv : ∀ (l : List Value) (n k : Nat) (v : Value), (argEnv n l).find k = some v → n ≤ k ∧ l[k - n]? = some v
  | [], n, k, v, h => by simp [argEnv, Env.find] at h
  | x :: r, n, k, v, h => by
    rw [argEnv, find_cons] at h
    by_cases hk : n = k
    · subst hk; rw [if_pos rfl] at h; injection h with h; subst h; simp
    · rw [if_neg hk] at h
      obtain ⟨h1, h2⟩ := find_argEnv r (n + 1) k v h
      refine ⟨by omega, ?_⟩
      rw [show k - n = (k - (n + 1)) + 1 by omega, List.getElem?_cons_succ]
      exact h2
/-- into a function -/
theorem enter {f : FuncId} {fn : Func} {c : Code} {args : List Value} {w : World} {F : List Nat} {R : Ending → World → Prop} {N : Nat} (hf : P.funcs[f]? = some fn) (hb : fn.body = some c) (hN : fn.ntmps = N) (hl : args.length ≤ N) (hm : Own m F w)
    (h : CW P ⟨N, [], w, F⟩ (QBody P fn R) c (argEnv 0 args) m) : Calls P f args.toArray w R := by
  refine calls_of_wp hf hb (h.run _ _ ⟨by simp; omega, rfl, fun n v hv => ?_⟩ (Holds.start hm))
  obtain ⟨_, h2⟩ := find_argEnv _ _ _ _ hv
  have hlt : n < args.length := by simpa using (List.getElem?_eq_some_iff.1 h2).1
  rw [Array.getD_eq_getD_getElem?, Array.getElem?_append_left (by simpa using hlt)]
  simp at h2
  simp [h2]
theorem EX_end0 {fn : Func} {R : Ending → World → Prop} (hD : K.D = []) (hr : fn.results = #[]) (h : ∀ w, Holds K.w0 K.F m w → R (.returned (.tuple #[])) w) : EX K (QBody P fn R) .normal ρ m := ⟨fun _ w hf hm =>
  ⟨hf.defs.trans hD, _, results_none hr _ _ _, h w hm⟩⟩
theorem EX_ret1 {fn : Func} {R : Ending → World → Prop} {t : Nat} (hD : K.D = []) (hr : fn.results = #[.tmp t]) (ht : ρ.find t = some v) (h : ∀ w, Holds K.w0 K.F m w → R (.returned v) w) : EX K (QBody P fn R) .ret ρ m := ⟨fun a w hf hm =>
  ⟨hf.defs.trans hD, _, results_tmp hr _ _ _, by rw [hf.get t v ht]; exact h w hm⟩⟩
theorem EX_ret2 {fn : Func} {R : Ending → World → Prop} {t u : Nat} {v1 v2 : Value} (hD : K.D = []) (hr : fn.results = #[.tmp t, .tmp u]) (ht : ρ.find t = some v1) (hu : ρ.find u = some v2) (h : ∀ w, Holds K.w0 K.F m w → R (.returned (.tuple #[v1, v2])) w) : EX K (QBody P fn R) .ret ρ m := ⟨fun a w hf hm =>
  ⟨hf.defs.trans hD, _, results_tmp2 hr _ _ _, by rw [hf.get t v1 ht, hf.get u v2 hu]; exact h w hm⟩⟩
end structure_
end Go.Proofs.YtllgkdkjcbohcaaGreatDoor
namespace Go.Proofs.YtllgkdkjcbohcaaGreatDoor
open Go.RowKit
/-- an int's range -/
def I64 (n : Int) : Prop := -9223372036854775808 ≤ n ∧ n ≤ 9223372036854775807
/-- the address of element i of a slice of one-cell elements; of nil: any -/
def addrAt (p : Option Addr) (i : Nat) : Addr := (p.getD ⟨0, 0, none⟩).add i
/-- v reads as the list xs of ints in w -/
structure IntsAt (w : World) (p : Option Addr) (cap : Nat) (xs : List Int) : Prop where
  le : xs.length ≤ cap
  max : cap ≤ maxLen
  some' : xs ≠ [] → p.isSome = true
  cell : ∀ (i : Nat) (x : Int), xs[i]? = some x → w.cell? (addrAt p i) = some (.int .i64 x)
  rng : ∀ x ∈ xs, I64 x
theorem IntsAt.nil (w : World) : IntsAt w none 0 [] := ⟨by simp, by unfold maxLen; omega, fun h => absurd rfl h, by simp, by simp⟩
theorem IntsAt.below {w w' : World} {p : Option Addr} {cap : Nat} {xs : List Int} (h : IntsAt w p cap xs) (hb : Below w.heap.size w w') : IntsAt w' p cap xs := by
  refine ⟨h.le, h.max, h.some', fun i x hx => ?_, h.rng⟩
  have hc := h.cell i x hx
  have hlt : (addrAt p i).block < w.heap.size := by
    unfold World.cell? at hc
    rcases Nat.lt_or_ge (addrAt p i).block w.heap.size with h' | h'
    · exact h'
    · rw [Array.getElem?_eq_none h'] at hc; simp at hc
  rw [hb.cell hlt]; exact hc
/-- an index within the list, whatever the slice's address -/
theorem idxAt {P : Program} {t e : TypeId} (ht : P.underlying t = some (.slice e)) (hz : ∀ w, (sizeOf e).run P w = .ok 1 w) {p : Option Addr} {n cap : Nat} (hs : p.isSome = true) (k : IntKind) (i : Nat) (hi : i < n) (w : World) :
    (Instr.indexAt t (.slice p n cap) (.int k (i : Int))).run P w = .ok (.pointer (some (addrAt p i))) w := by
  obtain ⟨a, rfl⟩ := Option.isSome_iff_exists.1 hs
  have h1 : (0 : Int) ≤ (i : Int) ∧ (i : Int) < (n : Int) := ⟨by omega, by omega⟩
  simp [Instr.indexAt, run_underlying ht, asIntOf, h1, hz, addrAt]
  intro h2; omega
theorem IntsAt.idx {P : Program} {t e : TypeId} (ht : P.underlying t = some (.slice e)) (hz : ∀ w, (sizeOf e).run P w = .ok 1 w) {w0 : World} {p : Option Addr} {cap : Nat} {xs : List Int} (h : IntsAt w0 p cap xs) {n : Nat} (hn : xs.length = n) (k : IntKind) (i : Nat) (hi : i < n) (w : World) :
    (Instr.indexAt t (.slice p n cap) (.int k (i : Int))).run P w = .ok (.pointer (some (addrAt p i))) w :=
  idxAt ht hz (h.some' (by intro e; subst e; simp at hn; omega)) k i hi w
theorem getD_some {xs : List Int} {i : Nat} (h : i < xs.length) : xs[i]? = some (xs.getD i 0) := by
  rw [List.getD_eq_getElem?_getD, List.getElem?_eq_getElem h]; rfl
theorem IntsAt.get {w : World} {p : Option Addr} {cap : Nat} {xs : List Int} (h : IntsAt w p cap xs) (i : Nat) (hi : i < xs.length) :
    w.cell? (addrAt p i) = some (.int .i64 (xs.getD i 0)) := h.cell i _ (getD_some hi)
theorem ret_bool {a b : Bool} (h : a = b) : Ending.returned (.bool a) = .returned (.bool b) := by rw [h]
theorem len_max {n c : Nat} (h : n ≤ c) (hc : c ≤ maxLen) : n ≤ 9223372036854775807 := by unfold maxLen at hc; omega
theorem drop_getD {s : List Int} {k : Nat} (h : k < s.length) : s.drop k = s.getD k 0 :: s.drop (k + 1) := by
  rw [List.drop_eq_getElem_cons h, List.getD_eq_getElem?_getD, List.getElem?_eq_getElem h]; rfl
theorem drop_end {s : List Int} {k : Nat} (h : s.length ≤ k) : s.drop k = [] := List.drop_eq_nil_of_le h
/-- an error as a value: T is Errno's type -/
def errV (T : TypeId) (e : Int) : Value := if e = 0 then .nilIface else .iface T (.int .i64 e)
theorem errV_zero (T : TypeId) : errV T 0 = .nilIface := by simp [errV]
theorem errV_ne {T : TypeId} {e : Int} (h : e ≠ 0) : errV T e = .iface T (.int .i64 e) := by simp [errV, h]
theorem ret_val {a b : Value} (h : a = b) : Ending.returned a = .returned b := by rw [h]
/-- a byte of a string -/
theorem strIdx {P : Program} {t : TypeId} (ht : P.underlying t = some .string) (s : ByteArray) (i : Nat) (h : i < s.size) (k : IntKind) {e : Int} (he : e = (i : Int)) (w : World) :
    (Instr.index t (.string s) (.int k e)).run P w = .ok (.int .u8 ((s[i]'h).toNat : Int)) w := by
  subst he
  simp [Instr.index, run_underlying ht, asIntOf, h]
/-- a part of a slice of one-cell elements -/
theorem sliceLH {P : Program} {t e : TypeId} (ht : P.underlying t = some (.slice e)) (hz : ∀ w, (sizeOf e).run P w = .ok 1 w) {p : Option Addr} {n cap l h : Nat} (hs : p.isSome = true) (hl : l < cap) (hlh : l ≤ h) (hh : h ≤ cap)
    (k1 k2 : IntKind) {el eh : Int} (hel : el = (l : Int)) (heh : eh = (h : Int)) (W : World) :
    (Instr.sliceAt t (.slice p n cap) (some (.int k1 el)) (some (.int k2 eh)) none).run P W = .ok (.slice (some (addrAt p l)) (h - l) (cap - l)) W := by
  obtain ⟨a, rfl⟩ := Option.isSome_iff_exists.1 hs
  subst hel; subst heh
  have h0 : (0 : Int) ≤ (l : Int) := by omega
  have h1 : (l : Int) ≤ (h : Int) := by omega
  have h2 : (h : Int) ≤ (cap : Int) := by omega
  have he : P.elem t = e := by simp [Program.elem, ht]
  have ht' : P.underlying t = some (.slice (P.elem t)) := by rw [he]; exact ht
  rw [run_sliceAt_slice (w := W) t _ _ _ _ ht', run_slice_lh (w := W) t (some a) n cap ht' k1 k2 l h h0 h1 h2, he, hz W]
  have hne : ¬ cap = l := by omega
  simp [Result.andThen, sliced, hne, addrAt]
theorem addrAt_add (p : Option Addr) (i j : Nat) : addrAt (some (addrAt p i)) j = addrAt p (i + j) := by
  unfold addrAt
  show ((p.getD ⟨0, 0, none⟩).add i).add j = _
  exact Go.Deep.add_add _ i j
theorem IntsAt.sub {w : World} {p : Option Addr} {cap : Nat} {xs : List Int} (h : IntsAt w p cap xs) {l r : Nat} (hl : l < r) (hr : r ≤ xs.length) : IntsAt w (some (addrAt p l)) (cap - l) ((xs.drop l).take (r - l)) := by
  have hle := h.le
  have hmx := h.max
  refine ⟨by simp; omega, by omega, fun _ => rfl, fun i x hx => ?_, fun x hx => h.rng x (List.mem_of_mem_drop (List.mem_of_mem_take hx))⟩
  rw [List.getElem?_take] at hx
  split at hx
  · rw [List.getElem?_drop] at hx
    rw [addrAt_add]
    exact h.cell _ _ hx
  · cases hx
end Go.Proofs.YtllgkdkjcbohcaaGreatDoor
