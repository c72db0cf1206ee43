/-
  A logic of walks, of no program: what is known of the slots is a list, what is known of memory is a list of things that lie apart; each operation is one lemma.
-/
import Derived.WalkKit
import Derived.WalkSpells
import Derived.Deep.QuietTactic
import Derived.Lib.Hide
import Derived.Deep.Slices
namespace Go.Proofs.YtgjmgmejojbdeaaGreatDoor
open Go.RowKit

/-! ## what is known of a frame's slots -/
abbrev Env := List (Nat × Value)
def Env.find : Env → Nat → Option Value
  | [], _ => none
  | (k, v) :: r, n => match Nat.beq k n with
    | true => some v
    | false => Env.find r n

structure Fits (N : Nat) (D : List Deferred) (a : Act) (ρ : Env) : Prop where
  size : a.tmps.size = N
  defs : a.defers = D
  get : ∀ n v, ρ.find n = some v → a.tmps.getD n undef = v

def opv (ρ : Env) : Operand → Option Value
  | .tmp t => ρ.find t
  | .const v => some v
  | .global g => some (.pointer (some ⟨g, 0, none⟩))
  | .func f => some (.func (.func f) #[] #[])

theorem Fits.eval {N : Nat} {D : List Deferred} {a : Act} {ρ : Env} (h : Fits N D a ρ) {x : Operand} {v : Value} (hx : opv ρ x = some v) : a.eval x = v := by
  cases x with
  | tmp t => exact h.get t v hx
  | const c => simpa [opv, Act.eval] using hx
  | global g => simpa [opv, Act.eval] using hx
  | func f => simpa [opv, Act.eval] using hx

theorem find_cons (k n : Nat) (v : Value) (ρ : Env) : Env.find ((k, v) :: ρ) n = if k = n then some v else Env.find ρ n := by
  simp only [Env.find]
  by_cases h : k = n
  · subst h; simp
  · have : Nat.beq k n = false := by
      cases hb : Nat.beq k n with
      | false => rfl
      | true => exact absurd (Nat.eq_of_beq_eq_true hb) h
    rw [this, if_neg h]

theorem Fits.put {N : Nat} {D : List Deferred} {a : Act} {ρ : Env} (h : Fits N D a ρ) {d : Nat} (hd : d < N) (v : Value) : Fits N D (a.put (some d) v) ((d, v) :: ρ) := by
  refine ⟨by simp [Act.put, h.size], h.defs, fun n u hu => ?_⟩
  rw [find_cons] at hu
  have hsz := h.size
  simp only [Act.put]
  by_cases hn : d = n
  · subst hn
    rw [if_pos rfl] at hu
    injection hu with hu
    subst hu
    simp [Array.getD, hsz, hd]
  · rw [if_neg hn] at hu
    have := h.get n u hu
    rw [← this]
    simp only [Array.getD_eq_getD_getElem?, Array.getElem?_setIfInBounds, hn, if_false]

theorem Fits.put_none {N : Nat} {D : List Deferred} {a : Act} {ρ : Env} (h : Fits N D a ρ) (v : Value) : Fits N D (a.put none v) ρ := h

/-- all that the second list knows the first one knows -/
def Cov (ρ ρ' : Env) : Prop := ∀ n v, ρ'.find n = some v → ρ.find n = some v
theorem Cov.nil {ρ : Env} : Cov ρ [] := fun _ _ h => by simp [Env.find] at h
theorem Cov.cons {ρ r : Env} {n : Nat} {v v' : Value} (h : ρ.find n = some v') (e : v' = v) (k : Cov ρ r) : Cov ρ ((n, v) :: r) := fun m u hu => by
  rw [find_cons] at hu
  by_cases hn : n = m
  · subst hn; rw [if_pos rfl] at hu; rw [h, e]; exact hu
  · rw [if_neg hn] at hu; exact k m u hu
theorem Fits.cov {N : Nat} {D : List Deferred} {a : Act} {ρ ρ' : Env} (h : Fits N D a ρ) (c : Cov ρ ρ') : Fits N D a ρ' := ⟨h.size, h.defs, fun n v hv => h.get n v (c n v hv)⟩

/-! ## what is known of memory -/
/-- a thing in memory, with the blocks that it lies in -/
structure HP where
  p : World → List Nat → Prop
  st : ∀ w w' fp, (∀ i ∈ fp, w'.heap[i]? = w.heap[i]?) → p w fp → p w' fp
  lt : ∀ w fp, p w fp → ∀ i ∈ fp, i < w.heap.size

def Own : List HP → List Nat → World → Prop
  | [], fp, _ => fp = []
  | h :: r, fp, w => ∃ f1 f2, fp = f1 ++ f2 ∧ h.p w f1 ∧ Own r f2 w ∧ ∀ i ∈ f1, i ∉ f2

/-- of what was there at w0 nothing has turned but what lies in F -/
structure Keep (w0 : World) (F : List Nat) (w : World) : Prop where
  os : w.os = w0.os
  tape : w.tape = w0.tape
  output : w.output = w0.output
  size : w0.heap.size ≤ w.heap.size
  block : ∀ k, k < w0.heap.size → k ∉ F → w.heap[k]? = w0.heap[k]?

structure Holds (w0 : World) (F : List Nat) (m : List HP) (w : World) : Prop where
  keep : Keep w0 F w
  own : ∃ fp, Own m fp w ∧ ∀ i ∈ fp, i < w0.heap.size → i ∈ F

theorem Own.lt : ∀ {m : List HP} {fp : List Nat} {w : World}, Own m fp w → ∀ i ∈ fp, i < w.heap.size
  | [], fp, w, h, i, hi => by simp only [Own] at h; subst h; cases hi
  | h :: r, fp, w, ho, i, hi => by
    obtain ⟨f1, f2, rfl, h1, h2, _⟩ := ho
    rcases List.mem_append.1 hi with hi | hi
    · exact h.lt _ _ h1 i hi
    · exact Own.lt h2 i hi
theorem Own.keep : ∀ {m : List HP} {fp : List Nat} {w w' : World}, Own m fp w → (∀ i ∈ fp, w'.heap[i]? = w.heap[i]?) → Own m fp w'
  | [], _, _, _, h, _ => h
  | h :: r, fp, w, w', ho, hk => by
    obtain ⟨f1, f2, rfl, h1, h2, hd⟩ := ho
    exact ⟨f1, f2, rfl, h.st _ _ _ (fun i hi => hk i (List.mem_append.2 (.inl hi))) h1, Own.keep h2 (fun i hi => hk i (List.mem_append.2 (.inr hi))), hd⟩

theorem Keep.refl (w : World) (F : List Nat) : Keep w F w := ⟨rfl, rfl, rfl, Nat.le_refl _, fun _ _ _ => rfl⟩
theorem Keep.below {w0 w w' : World} {F : List Nat} (h : Keep w0 F w) (hb : Below w.heap.size w w') : Keep w0 F w' :=
  ⟨hb.os.trans h.os, hb.tape.trans h.tape, hb.output.trans h.output, Nat.le_trans h.size hb.size, fun k hk hF => (hb.block k (Nat.lt_of_lt_of_le hk h.size)).trans (h.block k hk hF)⟩
theorem Keep.toBelow {w0 w : World} (h : Keep w0 [] w) : Below w0.heap.size w0 w := ⟨h.os, h.tape, h.output, h.size, fun k hk => h.block k hk (by simp)⟩
theorem Keep.ofBelow {w0 w : World} {F : List Nat} (h : Below w0.heap.size w0 w) : Keep w0 F w := ⟨h.os, h.tape, h.output, h.size, fun k hk _ => h.block k hk⟩

theorem Holds.below {w0 w : World} {m : List HP} (h : Holds w0 [] m w) : Below w0.heap.size w0 w := h.keep.toBelow
theorem Holds.size {w0 w : World} {F : List Nat} {m : List HP} (h : Holds w0 F m w) : w0.heap.size ≤ w.heap.size := h.keep.size
theorem Holds.nil (w : World) (F : List Nat) : Holds w F [] w := ⟨Keep.refl _ _, [], rfl, by simp⟩
theorem Holds.start {w : World} {fp : List Nat} {m : List HP} (h : Own m fp w) : Holds w fp m w := ⟨Keep.refl _ _, fp, h, fun _ hi _ => hi⟩
/-- a step that leaves all blocks as they were -/
theorem Holds.grow {w0 w w' : World} {F : List Nat} {m : List HP} (h : Holds w0 F m w) (hb : Below w.heap.size w w') : Holds w0 F m w' := by
  obtain ⟨fp, ho, hF⟩ := h.own
  exact ⟨h.keep.below hb, fp, ho.keep (fun i hi => hb.block i (ho.lt i hi)), hF⟩
theorem Holds.drew {w0 w : World} {F : List Nat} {m : List HP} (h : Holds w0 F m w) : Holds w0 F m w.drew := h.grow ((Below.refl _ _).drew)

/-- one of the things, taken out -/
inductive Pick : List HP → HP → List HP → Prop
  | here {h : HP} {r : List HP} : Pick (h :: r) h r
  | there {h x : HP} {m r : List HP} : Pick m h r → Pick (x :: m) h (x :: r)

theorem Pick.own {m r : List HP} {h : HP} (hp : Pick m h r) : ∀ {fp : List Nat} {w : World}, Own m fp w → ∃ f1 f2, (∀ i, i ∈ fp ↔ i ∈ f1 ∨ i ∈ f2) ∧ h.p w f1 ∧ Own r f2 w ∧ ∀ i ∈ f1, i ∉ f2 := by
  induction hp with
  | here =>
    rintro fp w ⟨f1, f2, rfl, h1, h2, hd⟩
    exact ⟨f1, f2, fun i => List.mem_append, h1, h2, hd⟩
  | there hp ih =>
    rintro fp w ⟨f1, f2, rfl, h1, h2, hd⟩
    obtain ⟨g1, g2, he, k1, k2, kd⟩ := ih h2
    refine ⟨g1, f1 ++ g2, fun i => ?_, k1, ⟨f1, g2, rfl, h1, k2, fun i hi hg => hd i hi ((he i).2 (.inr hg))⟩, fun i hi hg => ?_⟩
    · rw [List.mem_append, List.mem_append, he]
      constructor
      · rintro (a | a | a) <;> simp [a]
      · rintro (a | a | a) <;> simp [a]
    · rcases List.mem_append.1 hg with hg | hg
      · exact hd i hg ((he i).2 (.inl hi))
      · exact kd i hi hg

theorem Own.cons {h : HP} {r : List HP} {f1 f2 : List Nat} {w : World} (h1 : h.p w f1) (h2 : Own r f2 w) (hd : ∀ i ∈ f1, i ∉ f2) : Own (h :: r) (f1 ++ f2) w := ⟨f1, f2, rfl, h1, h2, hd⟩

/-- the one thing may have turned, and new blocks may have come: what was it is now m1 -/
theorem Holds.turn {w0 w w' : World} {F : List Nat} {m r m1 : List HP} {h : HP} (hh : Holds w0 F m w) (hp : Pick m h r)
    (k : ∀ f1, h.p w f1 → Keep w f1 w' ∧ ∃ g1, Own m1 g1 w' ∧ ∀ i ∈ g1, i < w.heap.size → i ∈ f1) : Holds w0 F (m1 ++ r) w' := by
  obtain ⟨fp, ho, hF⟩ := hh.own
  obtain ⟨f1, f2, he, k1, k2, kd⟩ := hp.own ho
  obtain ⟨kk, g1, hg, hgl⟩ := k f1 k1
  have hlt2 := k2.lt
  refine ⟨⟨kk.os.trans hh.keep.os, kk.tape.trans hh.keep.tape, kk.output.trans hh.keep.output, Nat.le_trans hh.keep.size kk.size, fun i hi hF' => ?_⟩, g1 ++ f2, ?_, fun i hi hi0 => ?_⟩
  · rw [kk.block i (Nat.lt_of_lt_of_le hi hh.keep.size) (fun hf => hF' (hF i ((he i).2 (.inl hf)) hi))]
    exact hh.keep.block i hi hF'
  · have h2 : Own r f2 w' := k2.keep (fun i hi => kk.block i (hlt2 i hi) (fun hf => kd i hf hi))
    have hdd : ∀ i ∈ g1, i ∉ f2 := fun i hi h2 => kd i (hgl i hi (hlt2 i h2)) h2
    clear hgl k
    revert hdd
    induction m1 generalizing g1 with
    | nil => intro hdd; simp only [Own] at hg; subst hg; simpa using h2
    | cons x m1 ih =>
      intro hdd
      obtain ⟨a, b, rfl, ha, hb, hab⟩ := hg
      have := ih b hb (fun i hi => hdd i (List.mem_append.2 (.inr hi)))
      rw [List.append_assoc]
      refine ⟨a, b ++ f2, rfl, ha, this, fun i hi hi2 => ?_⟩
      rcases List.mem_append.1 hi2 with h | h
      · exact hab i hi h
      · exact hdd i (List.mem_append.2 (.inl hi)) h
  · rcases List.mem_append.1 hi with hi | hi
    · exact hF i ((he i).2 (.inl (hgl i hi (Nat.lt_of_lt_of_le hi0 hh.keep.size)))) hi0
    · exact hF i ((he i).2 (.inr hi)) hi0

theorem Own.app : ∀ {m1 r : List HP} {g1 f2 : List Nat} {w : World}, Own m1 g1 w → Own r f2 w → (∀ i ∈ g1, i ∉ f2) → Own (m1 ++ r) (g1 ++ f2) w
  | [], r, g1, f2, w, hg, h2, _ => by simp only [Own] at hg; subst hg; simpa using h2
  | x :: m1, r, g1, f2, w, hg, h2, hd => by
    obtain ⟨a, b, rfl, ha, hb, hab⟩ := hg
    have := Own.app hb h2 (fun i hi => hd i (List.mem_append.2 (.inr hi)))
    show Own (x :: (m1 ++ r)) (a ++ b ++ f2) w
    rw [List.append_assoc]
    refine ⟨a, b ++ f2, rfl, ha, this, fun i hi hi2 => ?_⟩
    rcases List.mem_append.1 hi2 with h | h
    · exact hab i hi h
    · exact hd i (List.mem_append.2 (.inl hi)) h

/-- a call that turned nothing has made things -/
theorem Holds.add {w0 w w' : World} {F : List Nat} {m m1 : List HP} (h : Holds w0 F m w) (k : Holds w [] m1 w') : Holds w0 F (m1 ++ m) w' := by
  obtain ⟨fp, ho, hF⟩ := h.own
  obtain ⟨g, hg, hgl⟩ := k.own
  refine ⟨h.keep.below k.below, g ++ fp, Own.app hg (ho.keep fun i hi => k.below.block i (ho.lt i hi)) (fun i hi hi2 => ?_), fun i hi hi0 => ?_⟩
  · exact absurd (hgl i hi (ho.lt i hi2)) (by simp)
  · rcases List.mem_append.1 hi with hi | hi
    · exact absurd (hgl i hi (Nat.lt_of_lt_of_le hi0 h.keep.size)) (by simp)
    · exact hF i hi hi0

/-- m holds all that m' says -/
def Ent (m m' : List HP) : Prop := ∀ fp w, Own m fp w → ∃ fp', Own m' fp' w ∧ ∀ i ∈ fp', i ∈ fp
theorem Ent.nil {m : List HP} : Ent m [] := fun _ _ _ => ⟨[], rfl, by simp⟩
theorem Ent.refl {m : List HP} : Ent m m := fun fp _ h => ⟨fp, h, fun _ h => h⟩
theorem Ent.cons {m r m' : List HP} {h : HP} (hp : Pick m h r) (k : Ent r m') : Ent m (h :: m') := fun fp w ho => by
  obtain ⟨f1, f2, he, k1, k2, kd⟩ := hp.own ho
  obtain ⟨f3, h3, hs⟩ := k f2 w k2
  refine ⟨f1 ++ f3, ⟨f1, f3, rfl, k1, h3, fun i hi h => kd i hi (hs i h)⟩, fun i hi => ?_⟩
  rcases List.mem_append.1 hi with hi | hi
  · exact (he i).2 (.inl hi)
  · exact (he i).2 (.inr (hs i hi))
theorem Holds.ent {w0 w : World} {F : List Nat} {m m' : List HP} (h : Holds w0 F m w) (e : Ent m m') : Holds w0 F m' w := by
  obtain ⟨fp, ho, hF⟩ := h.own
  obtain ⟨fp', ho', hs⟩ := e fp w ho
  exact ⟨h.keep, fp', ho', fun i hi => hF i (hs i hi)⟩
theorem Holds.pick {w0 w : World} {F : List Nat} {m r : List HP} {h : HP} (hh : Holds w0 F m w) (hp : Pick m h r) : ∃ fp, h.p w fp := by
  obtain ⟨fp, ho, _⟩ := hh.own
  obtain ⟨f1, _, _, k1, _⟩ := hp.own ho
  exact ⟨f1, k1⟩

/-- a whole block -/
def blk (b : Nat) (T : TypeId) (cs : Array Value) : HP where
  p w fp := fp = [b] ∧ w.heap[b]? = some (.cells cs T (0, 0))
  st w w' fp h := by rintro ⟨rfl, hb⟩; exact ⟨rfl, (h b (by simp)).trans hb⟩
  lt w fp := by
    rintro ⟨rfl, hb⟩ i hi
    have : i = b := by simpa using hi
    subst this
    exact (Array.getElem?_eq_some_iff.1 hb).1

theorem Holds.blk {w0 w : World} {F : List Nat} {m r : List HP} {b : Nat} {T : TypeId} {cs : Array Value} (hh : Holds w0 F m w) (hp : Pick m (blk b T cs) r) : w.heap[b]? = some (.cells cs T (0, 0)) := by
  obtain ⟨_, _, h⟩ := hh.pick hp
  exact h
theorem Holds.new {w0 w : World} {F : List Nat} {m : List HP} (h : Holds w0 F m w) (T : TypeId) (cs : Array Value) : Holds w0 F (Go.Proofs.YtgjmgmejojbdeaaGreatDoor.blk w.heap.size T cs :: m) (w.alloc (.cells cs T)) := by
  refine Holds.add (m1 := [Go.Proofs.YtgjmgmejojbdeaaGreatDoor.blk w.heap.size T cs]) h ⟨Keep.ofBelow ((Below.refl _ _).alloc (Nat.le_refl _) _), [w.heap.size], ⟨[w.heap.size], [], rfl, ⟨rfl, ?_⟩, rfl, by simp⟩, fun i hi hl => ?_⟩
  · show (w.heap.push _)[w.heap.size]? = _
    simp
  · have : i = w.heap.size := by simpa using hi
    omega
theorem Holds.set {w0 w : World} {F : List Nat} {m r : List HP} {b : Nat} {T : TypeId} {cs : Array Value} (h : Holds w0 F m w) (hp : Pick m (Go.Proofs.YtgjmgmejojbdeaaGreatDoor.blk b T cs) r) (i : Nat) (v : Value) :
    Holds w0 F (Go.Proofs.YtgjmgmejojbdeaaGreatDoor.blk b T (cs.setIfInBounds i v) :: r) (w.setCell ⟨b, i, none⟩ v) := by
  refine h.turn (m1 := [Go.Proofs.YtgjmgmejojbdeaaGreatDoor.blk b T (cs.setIfInBounds i v)]) hp fun f1 hf => ?_
  obtain ⟨rfl, hb⟩ := hf
  refine ⟨⟨rfl, rfl, rfl, by simp [World.setCell], fun k _ hF => Below.heap_setCell _ _ _ _ (by simpa using hF)⟩, [b], ⟨[b], [], rfl, ⟨rfl, ?_⟩, rfl, by simp⟩, fun i hi _ => hi⟩
  simp [World.setCell, Array.getElem?_modify, hb]

end Go.Proofs.YtgjmgmejojbdeaaGreatDoor
