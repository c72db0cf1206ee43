/-
  The logic of walks: one lemma an operation, one a piece of code. Of no program.
-/
import Derived.Test.YtgjmgmejojbdeaaGreatDoorLog
namespace Go.Proofs.YtgjmgmejojbdeaaGreatDoor
open Go.RowKit

/-- what stays the same through a function: how many slots, what is deferred, the world at its beginning, which old blocks may turn -/
structure Cx where
  N : Nat
  D : List Deferred
  w0 : World
  F : List Nat

structure CW (P : Program) (K : Cx) (Q : Exit → Act → World → Prop) (c : Code) (ρ : Env) (m : List HP) : Prop where
  run : ∀ a w, Fits K.N K.D a ρ → Holds K.w0 K.F m w → c.wp P Q a w
structure WL (P : Program) (K : Cx) (ops : Array Oper) (Q : Exit → Act → World → Prop) (l : List Oper) (ρ : Env) (m : List HP) : Prop where
  run : ∀ a w, Fits K.N K.D a ρ → Holds K.w0 K.F m w → wpList P ops Q l a w
structure WQ (P : Program) (K : Cx) (ops : Array Oper) (L : Act → Prop) (l : List Oper) (ρ : Env) (m : List HP) : Prop where
  run : ∀ a, Fits K.N K.D a ρ → wpQuiet P ops (Holds K.w0 K.F m) L l a
structure EX (K : Cx) (Q : Exit → Act → World → Prop) (e : Exit) (ρ : Env) (m : List HP) : Prop where
  run : ∀ a w, Fits K.N K.D a ρ → Holds K.w0 K.F m w → Q e a w

/-- does the operation's guard say yes? -/
def guardB (ops : Array Oper) (g : Option (Nat × Bool)) (ρ : Env) : Option Bool :=
  match g with
  | none => some true
  | some (j, want) => match (ops[j]?).bind (·.dst) with
    | none => none
    | some d => match ρ.find d with
      | some (.bool b) => some (b == want)
      | some (.tuple _) => some false
      | _ => none

theorem guard_wanted {N : Nat} {D : List Deferred} {a : Act} {ρ : Env} (h : Fits N D a ρ) {ops : Array Oper} {o : Oper} {b : Bool} (hg : guardB ops o.guard ρ = some b) (hN : ∀ j w d, o.guard = some (j, w) → (ops[j]?).bind (·.dst) = some d → d < N) :
    Region.wanted o (yielded ops a.tmps) = b := by
  unfold guardB at hg
  unfold Region.wanted
  cases hgd : o.guard with
  | none => rw [hgd] at hg; simpa using hg
  | some jw =>
    obtain ⟨j, want⟩ := jw
    rw [hgd] at hg
    simp only at hg ⊢
    cases hd : (ops[j]?).bind (·.dst) with
    | none => rw [hd] at hg; cases hg
    | some d =>
      have hdN := hN j want d hgd hd
      rw [hd] at hg
      simp only at hg
      cases hf : ρ.find d with
      | none => rw [hf] at hg; cases hg
      | some v =>
        have hv := h.get d v hf
        have ht : a.tmps[d]? = some v := by
          have hl : d < a.tmps.size := by rw [h.size]; exact hdN
          rw [Array.getElem?_eq_getElem hl]
          simpa [Array.getD, hl] using hv
        rw [hf] at hg
        unfold yielded
        rw [hd]
        simp only [Option.bind_some, ht]
        cases v <;> simp at hg ⊢
        · exact hg
        · exact hg

theorem blt_lt {d N : Nat} (h : Nat.blt d N = true) : d < N := Nat.le_of_ble_eq_true h
def guardN (N : Nat) (ops : Array Oper) (g : Option (Nat × Bool)) : Bool :=
  match g with
  | none => true
  | some (j, _) => match (ops[j]?).bind (·.dst) with
    | none => true
    | some d => Nat.blt d N
theorem guardN_spec {N : Nat} {ops : Array Oper} {g : Option (Nat × Bool)} (h : guardN N ops g = true) : ∀ j w d, g = some (j, w) → (ops[j]?).bind (·.dst) = some d → d < N := by
  rintro j w d rfl hd
  unfold guardN at h
  simp only [hd] at h
  exact blt_lt h

/-- the operation yields this value and leaves the world as it is -/
structure Yi (P : Program) (K : Cx) (ρ : Env) (m : List HP) (o : Oper) (v : Value) : Prop where
  run : ∀ a w, Fits K.N K.D a ρ → Holds K.w0 K.F m w → (execOp a.eval o).run P w = .ok (.value v) w

section structure_
variable {P : Program} {K : Cx} {ops : Array Oper} {Q : Exit → Act → World → Prop} {ρ : Env} {m : List HP} {rest : List Oper} {L : Act → Prop}
  {dst : Option Nat} {d : Nat} {op : Op} {ty : TypeId} {pos : String} {aft : Array Edge} {g : Option (Nat × Bool)} {v : Value}

theorem WL_nil (h : EX K Q .normal ρ m) : WL P K ops Q [] ρ m := ⟨fun a w hf hm => wpList_nil (h.run a w hf hm)⟩
theorem WL_yi (h : Yi P K ρ m ⟨some d, op, ty, pos, aft, g⟩ v) (hg : guardB ops g ρ = some true) (hn : (guardN K.N ops g && Nat.blt d K.N) = true) (k : WL P K ops Q rest ((d, v) :: ρ) m) :
    WL P K ops Q (⟨some d, op, ty, pos, aft, g⟩ :: rest) ρ m := by
  refine ⟨fun a w hf hm => ?_⟩
  simp only [Bool.and_eq_true] at hn
  unfold wpList
  rw [if_pos (guard_wanted hf hg (guardN_spec hn.1))]
  refine .inl ?_
  unfold Oper.wp
  rw [h.run a w hf hm, Oper.upon_value]
  exact k.run _ _ (hf.put (blt_lt hn.2) v) hm
theorem WL_op (hg : guardB ops g ρ = some true) (hn : (guardN K.N ops g && Nat.blt d K.N) = true) (h : Yi P K ρ m ⟨some d, op, ty, pos, aft, g⟩ v) (k : WL P K ops Q rest ((d, v) :: ρ) m) :
    WL P K ops Q (⟨some d, op, ty, pos, aft, g⟩ :: rest) ρ m := WL_yi h hg hn k
theorem WL_no (hg : guardB ops g ρ = some false) (hn : (guardN K.N ops g && Nat.blt d K.N) = true) (k : WL P K ops Q rest ((d, undef) :: ρ) m) :
    WL P K ops Q (⟨some d, op, ty, pos, aft, g⟩ :: rest) ρ m := by
  refine ⟨fun a w hf hm => ?_⟩
  simp only [Bool.and_eq_true] at hn
  unfold wpList
  rw [if_neg (by rw [guard_wanted hf hg (guardN_spec hn.1)]; simp)]
  exact k.run _ _ (hf.put (blt_lt hn.2) undef) hm
/-- a slot that holds a Bool, decided -/
theorem WL_split (n : Nat) {b : Bool} (h : ρ.find n = some (.bool b)) (ht : b = true → WL P K ops Q rest ((n, .bool true) :: ρ) m) (hf : b = false → WL P K ops Q rest ((n, .bool false) :: ρ) m) : WL P K ops Q rest ρ m := by
  refine ⟨fun a w hfi hm => ?_⟩
  have key : ∀ c, b = c → Fits K.N K.D a ((n, .bool c) :: ρ) := fun c hc => hfi.cov (Cov.cons h (by rw [hc]) (fun _ _ h => h))
  cases b with
  | true => exact (ht rfl).run a w (key _ rfl) hm
  | false => exact (hf rfl).run a w (key _ rfl) hm
theorem WQ_nil (h : ∀ a, Fits K.N K.D a ρ → L a) : WQ P K ops L [] ρ m := ⟨fun a hf => wpQuiet_nil (h a hf)⟩
theorem WQ_yi (h : Yi P K ρ m ⟨some d, op, ty, pos, aft, g⟩ v) (hg : guardB ops g ρ = some true) (hn : (guardN K.N ops g && Nat.blt d K.N) = true) (k : WQ P K ops L rest ((d, v) :: ρ) m) :
    WQ P K ops L (⟨some d, op, ty, pos, aft, g⟩ :: rest) ρ m := by
  refine ⟨fun a hf => ?_⟩
  simp only [Bool.and_eq_true] at hn
  unfold wpQuiet
  rw [if_pos (guard_wanted hf hg (guardN_spec hn.1))]
  refine ⟨v, fun w hw => ?_, k.run _ (hf.put (blt_lt hn.2) v)⟩
  unfold Oper.quietAt
  rw [h.run a w hf hw]
  exact ⟨rfl, rfl⟩
theorem WQ_op (hg : guardB ops g ρ = some true) (hn : (guardN K.N ops g && Nat.blt d K.N) = true) (h : Yi P K ρ m ⟨some d, op, ty, pos, aft, g⟩ v) (k : WQ P K ops L rest ((d, v) :: ρ) m) :
    WQ P K ops L (⟨some d, op, ty, pos, aft, g⟩ :: rest) ρ m := WQ_yi h hg hn k
theorem WQ_no (hg : guardB ops g ρ = some false) (hn : (guardN K.N ops g && Nat.blt d K.N) = true) (k : WQ P K ops L rest ((d, undef) :: ρ) m) :
    WQ P K ops L (⟨some d, op, ty, pos, aft, g⟩ :: rest) ρ m := by
  refine ⟨fun a hf => ?_⟩
  simp only [Bool.and_eq_true] at hn
  unfold wpQuiet
  rw [if_neg (by rw [guard_wanted hf hg (guardN_spec hn.1)]; simp)]
  exact k.run _ (hf.put (blt_lt hn.2) undef)
theorem WQ_split (n : Nat) {b : Bool} (h : ρ.find n = some (.bool b)) (ht : b = true → WQ P K ops L rest ((n, .bool true) :: ρ) m) (hf : b = false → WQ P K ops L rest ((n, .bool false) :: ρ) m) : WQ P K ops L rest ρ m := by
  refine ⟨fun a hfi => ?_⟩
  have key : ∀ c, b = c → Fits K.N K.D a ((n, .bool c) :: ρ) := fun c hc => hfi.cov (Cov.cons h (by rw [hc]) (fun _ _ h => h))
  cases b with
  | true => exact (ht rfl).run a (key _ rfl)
  | false => exact (hf rfl).run a (key _ rfl)

/-! ## code -/
theorem CW_region {id : Nat} {l : List Oper} (h : WL P K l.toArray Q l ρ m) : CW P K Q (.region id l.toArray false) ρ m := ⟨fun a w hf hm => wp_region_lit (h.run a w hf hm)⟩
theorem CW_quiet {id : Nat} {l : List Oper} (hM : P.follows .mixedOrders = true) (hB : Region.lexB .any l.toArray = true) (h : WQ P K l.toArray (fun a => ∀ w, Holds K.w0 K.F m w → Q .normal a w) l ρ m) : CW P K Q (.region id l.toArray true) ρ m := ⟨fun a w hf hm =>
  wp_region_quiet hM hB hm.drew (by have := h.run a hf; simpa using this)⟩
theorem WQ_end {Q : Exit → Act → World → Prop} (h : EX K Q .normal ρ m) : WQ P K ops (fun a => ∀ w, Holds K.w0 K.F m w → Q .normal a w) [] ρ m := WQ_nil fun a hf w hw => h.run a w hf hw
theorem CW_ent {c : Code} {m' : List HP} (e : Ent m m') (h : CW P K Q c ρ m') : CW P K Q c ρ m := ⟨fun a w hf hm => h.run a w hf (hm.ent e)⟩
theorem WL_ent {m' : List HP} (e : Ent m m') (h : WL P K ops Q rest ρ m') : WL P K ops Q rest ρ m := ⟨fun a w hf hm => h.run a w hf (hm.ent e)⟩
theorem EX_ent {m' : List HP} {x : Exit} (e : Ent m m') (h : EX K Q x ρ m') : EX K Q x ρ m := ⟨fun a w hf hm => h.run a w hf (hm.ent e)⟩
theorem CW_skip (h : EX K Q .normal ρ m) : CW P K Q .skip ρ m := ⟨fun a w hf hm => wp_skip (h.run a w hf hm)⟩
theorem CW_ret (h : EX K Q .ret ρ m) : CW P K Q .ret ρ m := ⟨fun a w hf hm => wp_ret (h.run a w hf hm)⟩
theorem CW_exit {id : Nat} (h : EX K Q (.exit id) ρ m) : CW P K Q (.exit id) ρ m := ⟨fun a w hf hm => wp_exit (h.run a w hf hm)⟩
theorem CW_cond {c : Operand} {x y : Code} {b : Bool} (hc : opv ρ c = some (.bool b)) (ht : b = true → CW P K Q x ρ m) (hf : b = false → CW P K Q y ρ m) : CW P K Q (.cond c x y) ρ m := ⟨fun a w hfi hm =>
  wp_cond_split (hfi.eval hc) (fun h => (ht h).run a w hfi hm) (fun h => (hf h).run a w hfi hm)⟩
theorem CW_condT {c : Operand} {x y : Code} (hc : opv ρ c = some (.bool true)) (ht : CW P K Q x ρ m) : CW P K Q (.cond c x y) ρ m := ⟨fun a w hfi hm => wp_cond_true (hfi.eval hc) (ht.run a w hfi hm)⟩
theorem CW_condF {c : Operand} {x y : Code} (hc : opv ρ c = some (.bool false)) (hf : CW P K Q y ρ m) : CW P K Q (.cond c x y) ρ m := ⟨fun a w hfi hm => wp_cond_false (hfi.eval hc) (hf.run a w hfi hm)⟩

def QSeq (P : Program) (y : Code) (Q : Exit → Act → World → Prop) : Exit → Act → World → Prop := Exit.then (y.wp P Q) Q
def QBlk (id : Nat) (Q : Exit → Act → World → Prop) : Exit → Act → World → Prop := Exit.inBlock id Q
/-- what must hold where the ways meet -/
def QMid {X : Type} (K : Cx) (R : X → Env) (M : X → List HP) (I : X → Prop) (Q : Exit → Act → World → Prop) : Exit → Act → World → Prop := Exit.then (fun a w => ∃ x, I x ∧ Fits K.N K.D a (R x) ∧ Holds K.w0 K.F (M x) w) Q

theorem CW_seq {x y : Code} (h : CW P K (QSeq P y Q) x ρ m) : CW P K Q (.seq x y) ρ m := ⟨fun a w hf hm => wp_seq (h.run a w hf hm)⟩
theorem CW_block {id : Nat} {c : Code} (h : CW P K (QBlk id Q) c ρ m) : CW P K Q (.block id c) ρ m := ⟨fun a w hf hm => wp_block (h.run a w hf hm)⟩
theorem CW_cut {X : Type} (R : X → Env) (M : X → List HP) (I : X → Prop) {x y : Code} (h : CW P K (QMid K R M I Q) x ρ m) (k : ∀ z, I z → CW P K Q y (R z) (M z)) : CW P K Q (.seq x y) ρ m := by
  refine ⟨fun a w hf hm => ?_⟩
  refine wp_seq (wp_mono (h.run a w hf hm) fun e a' w' hq => ?_)
  cases e <;> first
    | exact hq
    | (obtain ⟨z, hz, hzf, hzm⟩ := hq; exact (k z hz).run _ _ hzf hzm)

/-- a loop: what a round begins with is R x, M x, I x; μ goes down -/
def QLoop {X : Type} (K : Cx) (R : X → Env) (M : X → List HP) (I : X → Prop) (μ : X → Nat) (x : X) (Q : Exit → Act → World → Prop) : Exit → Act → World → Prop :=
  Exit.then (fun a w => ∃ x', I x' ∧ μ x' < μ x ∧ Fits K.N K.D a (R x') ∧ Holds K.w0 K.F (M x') w) Q
theorem CW_loop {X : Type} (R : X → Env) (M : X → List HP) (I : X → Prop) (μ : X → Nat) (x0 : X) (h0 : I x0) (hρ : Cov ρ (R x0)) (hm : Ent m (M x0)) {c : Code}
    (round : ∀ x, I x → CW P K (QLoop K R M I μ x Q) c (R x) (M x)) : CW P K Q (.loop c) ρ m := by
  refine ⟨fun a w hf hh => ?_⟩
  have key : ∀ n x a w, μ x = n → I x → Fits K.N K.D a (R x) → Holds K.w0 K.F (M x) w → ∃ x', μ x' = n ∧ I x' ∧ Fits K.N K.D a (R x') ∧ Holds K.w0 K.F (M x') w := fun n x a w h1 h2 h3 h4 => ⟨x, h1, h2, h3, h4⟩
  clear key
  intro b k cs
  have loop : ∀ n x a w, μ x = n → I x → Fits K.N K.D a (R x) → Holds K.w0 K.F (M x) w →
      ∃ e a' w', Q e a' w' ∧ Arrives P (lone (b.at a (.code c :: .inLoop c :: k)) cs w) b k cs e a' w' := by
    intro n
    induction n using Nat.strongRecOn with
    | _ n ih =>
      intro x a w hn hI hfx hmx
      obtain ⟨e, a1, w1, hq, harr⟩ := (round x hI).run a w hfx hmx b (.inLoop c :: k) cs
      cases e with
      | normal =>
        obtain ⟨x', hI', hμ, hf', hm'⟩ := hq
        obtain ⟨e2, a2, w2, hq2, harr2⟩ := ih (μ x') (by omega) x' a1 w1 rfl hI' hf' hm'
        exact ⟨e2, a2, w2, hq2, .of_steps (Steps.trans harr (.one step_inLoop)) harr2⟩
      | exit id => exact ⟨_, a1, w1, hq, .pass (x := .inLoop c) rfl (fun _ _ => .inl (by simp)) harr⟩
      | goto l => exact ⟨_, a1, w1, hq, .pass (x := .inLoop c) rfl (fun _ _ => .inl (by simp)) harr⟩
      | ret => exact ⟨_, a1, w1, hq, .pass (x := .inLoop c) rfl (fun _ _ => .inl (by simp)) harr⟩
      | panic ch => exact ⟨_, a1, w1, hq, .pass (x := .inLoop c) rfl (fun _ _ => .inl (by simp)) harr⟩
      | outgrown => exact ⟨_, a1, w1, hq, .pass (x := .inLoop c) rfl (fun _ _ => .inl (by simp)) harr⟩
  obtain ⟨e, a', w', hq, harr⟩ := loop _ x0 a w rfl h0 (hf.cov hρ) (hh.ent hm)
  exact ⟨e, a', w', hq, .of_steps (.one step_loop) harr⟩

/-! ## ways out -/
theorem EX_seq {y : Code} (h : CW P K Q y ρ m) : EX K (QSeq P y Q) .normal ρ m := ⟨h.run⟩
theorem EX_seq_exit {y : Code} {id : Nat} (h : EX K Q (.exit id) ρ m) : EX K (QSeq P y Q) (.exit id) ρ m := ⟨h.run⟩
theorem EX_seq_ret {y : Code} (h : EX K Q .ret ρ m) : EX K (QSeq P y Q) .ret ρ m := ⟨h.run⟩
theorem EX_blk {id : Nat} (h : EX K Q .normal ρ m) : EX K (QBlk id Q) .normal ρ m := ⟨h.run⟩
theorem EX_blk_eq {id id' : Nat} (e : Nat.beq id' id = true) (h : EX K Q .normal ρ m) : EX K (QBlk id Q) (.exit id') ρ m := by
  refine ⟨fun a w hf hm => ?_⟩
  have : id' = id := Nat.eq_of_beq_eq_true e
  simp only [QBlk, Exit.inBlock, this, if_true]
  exact h.run a w hf hm
theorem EX_blk_ne {id id' : Nat} (e : Nat.beq id' id = false) (h : EX K Q (.exit id') ρ m) : EX K (QBlk id Q) (.exit id') ρ m := by
  refine ⟨fun a w hf hm => ?_⟩
  have : id' ≠ id := Nat.ne_of_beq_eq_false e
  simp only [QBlk, Exit.inBlock, this, if_false]
  exact h.run a w hf hm
theorem EX_blk_ret {id : Nat} (h : EX K Q .ret ρ m) : EX K (QBlk id Q) .ret ρ m := ⟨h.run⟩
theorem EX_mid {X : Type} {R : X → Env} {M : X → List HP} {I : X → Prop} (x : X) (hI : I x) (hρ : Cov ρ (R x)) (hm : Ent m (M x)) : EX K (QMid K R M I Q) .normal ρ m := ⟨fun _ _ hf hh => ⟨x, hI, hf.cov hρ, hh.ent hm⟩⟩
theorem EX_mid_exit {X : Type} {R : X → Env} {M : X → List HP} {I : X → Prop} {id : Nat} (h : EX K Q (.exit id) ρ m) : EX K (QMid K R M I Q) (.exit id) ρ m := ⟨h.run⟩
theorem EX_mid_ret {X : Type} {R : X → Env} {M : X → List HP} {I : X → Prop} (h : EX K Q .ret ρ m) : EX K (QMid K R M I Q) .ret ρ m := ⟨h.run⟩
theorem EX_loop {X : Type} {R : X → Env} {M : X → List HP} {I : X → Prop} {μ : X → Nat} {x : X} (x' : X) (hI : I x') (hμ : μ x' < μ x) (hρ : Cov ρ (R x')) (hm : Ent m (M x')) : EX K (QLoop K R M I μ x Q) .normal ρ m := ⟨fun _ _ hf hh => ⟨x', hI, hμ, hf.cov hρ, hh.ent hm⟩⟩
theorem EX_loop_exit {X : Type} {R : X → Env} {M : X → List HP} {I : X → Prop} {μ : X → Nat} {x : X} {id : Nat} (h : EX K Q (.exit id) ρ m) : EX K (QLoop K R M I μ x Q) (.exit id) ρ m := ⟨h.run⟩
theorem EX_loop_ret {X : Type} {R : X → Env} {M : X → List HP} {I : X → Prop} {μ : X → Nat} {x : X} (h : EX K Q .ret ρ m) : EX K (QLoop K R M I μ x Q) .ret ρ m := ⟨h.run⟩

/-! ## the function -/
def QBody (P : Program) (fn : Func) (R : Ending → World → Prop) : Exit → Act → World → Prop := bodyPost P fn R
def argEnv : Nat → List Value → Env
  | _, [] => []
  | n, v :: r => (n, v) :: argEnv (n + 1) r
theorem find_argEnv : ∀ (l : List Value) (n k : Nat) (v : Value), (argEnv n l).find k = some v → n ≤ k ∧ l[k - n]? = some v
  | [], n, k, v, h => by simp [argEnv, Env.find] at h
  | x :: r, n, k, v, h => by
    rw [argEnv, find_cons] at h
    by_cases hk : n = k
    · subst hk; rw [if_pos rfl] at h; injection h with h; subst h; simp
    · rw [if_neg hk] at h
      obtain ⟨h1, h2⟩ := find_argEnv r (n + 1) k v h
      refine ⟨by omega, ?_⟩
      rw [show k - n = (k - (n + 1)) + 1 by omega, List.getElem?_cons_succ]
      exact h2
/-- into a function -/
theorem enter {f : FuncId} {fn : Func} {c : Code} {args : List Value} {w : World} {F : List Nat} {R : Ending → World → Prop} {N : Nat} (hf : P.funcs[f]? = some fn) (hb : fn.body = some c) (hN : fn.ntmps = N) (hl : args.length ≤ N) (hm : Own m F w)
    (h : CW P ⟨N, [], w, F⟩ (QBody P fn R) c (argEnv 0 args) m) : Calls P f args.toArray w R := by
  refine calls_of_wp hf hb (h.run _ _ ⟨by simp; omega, rfl, fun n v hv => ?_⟩ (Holds.start hm))
  obtain ⟨_, h2⟩ := find_argEnv _ _ _ _ hv
  have hlt : n < args.length := by simpa using (List.getElem?_eq_some_iff.1 h2).1
  rw [Array.getD_eq_getD_getElem?, Array.getElem?_append_left (by simpa using hlt)]
  simp at h2
  simp [h2]
theorem EX_ret0 {fn : Func} {R : Ending → World → Prop} (hD : K.D = []) (hr : fn.results = #[]) (h : ∀ w, Holds K.w0 K.F m w → R (.returned (.tuple #[])) w) : EX K (QBody P fn R) .ret ρ m := ⟨fun _ w hf hm =>
  ⟨hf.defs.trans hD, _, results_none hr _ _ _, h w hm⟩⟩
theorem EX_end0 {fn : Func} {R : Ending → World → Prop} (hD : K.D = []) (hr : fn.results = #[]) (h : ∀ w, Holds K.w0 K.F m w → R (.returned (.tuple #[])) w) : EX K (QBody P fn R) .normal ρ m := ⟨fun _ w hf hm =>
  ⟨hf.defs.trans hD, _, results_none hr _ _ _, h w hm⟩⟩
theorem EX_ret1 {fn : Func} {R : Ending → World → Prop} {t : Nat} (hD : K.D = []) (hr : fn.results = #[.tmp t]) (ht : ρ.find t = some v) (h : ∀ w, Holds K.w0 K.F m w → R (.returned v) w) : EX K (QBody P fn R) .ret ρ m := ⟨fun a w hf hm =>
  ⟨hf.defs.trans hD, _, results_tmp hr _ _ _, by rw [hf.get t v ht]; exact h w hm⟩⟩
theorem EX_ret2 {fn : Func} {R : Ending → World → Prop} {t u : Nat} {v1 v2 : Value} (hD : K.D = []) (hr : fn.results = #[.tmp t, .tmp u]) (ht : ρ.find t = some v1) (hu : ρ.find u = some v2) (h : ∀ w, Holds K.w0 K.F m w → R (.returned (.tuple #[v1, v2])) w) : EX K (QBody P fn R) .ret ρ m := ⟨fun a w hf hm =>
  ⟨hf.defs.trans hD, _, results_tmp2 hr _ _ _, by rw [hf.get t v1 ht, hf.get u v2 hu]; exact h w hm⟩⟩
theorem results_tmp3' {fn : Func} {t u x : Tmp} (h : fn.results = #[.tmp t, .tmp u, .tmp x]) (tmps : Array Value) (P : Program) (w : World) :
    (results fn tmps).run P w = .ok (.tuple #[tmps.getD t undef, tmps.getD u undef, tmps.getD x undef]) w := by simp [results, h]
theorem EX_ret3 {fn : Func} {R : Ending → World → Prop} {t u x : Nat} {v1 v2 v3 : Value} (hD : K.D = []) (hr : fn.results = #[.tmp t, .tmp u, .tmp x]) (ht : ρ.find t = some v1) (hu : ρ.find u = some v2) (hx : ρ.find x = some v3) (h : ∀ w, Holds K.w0 K.F m w → R (.returned (.tuple #[v1, v2, v3])) w) : EX K (QBody P fn R) .ret ρ m := ⟨fun a w hf hm =>
  ⟨hf.defs.trans hD, _, results_tmp3' hr _ _ _, by rw [hf.get t v1 ht, hf.get u v2 hu, hf.get x v3 hx]; exact h w hm⟩⟩
end structure_
end Go.Proofs.YtgjmgmejojbdeaaGreatDoor
