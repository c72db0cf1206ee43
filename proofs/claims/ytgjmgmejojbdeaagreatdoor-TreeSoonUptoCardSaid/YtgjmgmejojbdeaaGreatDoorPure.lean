/-
  The logic of walks: operations that ask for nothing; tests that are decided.
-/
import Derived.Test.YtgjmgmejojbdeaaGreatDoorOps
namespace Go.Proofs.YtgjmgmejojbdeaaGreatDoor
open Go.RowKit

def pureV (ρ : Env) : Op → Option Value
  | .move x | .assign x => opv ρ x
  | .pick c a b => match opv ρ c with
    | some (.bool true) => opv ρ a
    | some (.bool false) => opv ρ b
    | _ => none
  | .nilCheck x => match opv ρ x with
    | some (.pointer (some a)) => some (.pointer (some a))
    | _ => none
  | .unOp .not _ x => match opv ρ x with
    | some (.bool b) => some (.bool (!b))
    | _ => none
  | .extract x i => match opv ρ x with
    | some (.tuple vs) => vs[i]?
    | _ => none
  | .binOp op _ x y _ => match opv ρ x, opv ρ y with
    | some (.int k a), some (.int k' b) => if k = k' then (match op with
      | .lss => some (.bool (decide (a < b)))
      | .gtr => some (.bool (decide (b < a)))
      | .leq => some (.bool (decide (a ≤ b)))
      | .geq => some (.bool (decide (b ≤ a)))
      | .eql => some (.bool (decide (a = b)))
      | .neq => some (.bool (decide (a ≠ b)))
      | _ => none) else none
    | _, _ => none
  | _ => none

section
variable {P : Program} {K : Cx} {ρ : Env} {m : List HP} {dst : Option Nat} {ty : TypeId} {pos : String} {aft : Array Edge} {g : Option (Nat × Bool)} {v : Value} {ops : Array Oper} {Q : Exit → Act → World → Prop} {rest : List Oper} {L : Act → Prop}

theorem y_pure {op : Op} (h : pureV ρ op = some v) : Yi P K ρ m ⟨dst, op, ty, pos, aft, g⟩ v := by
  cases op with
  | move x => exact y_move h
  | assign x => exact y_assign h
  | pick c a b =>
    simp only [pureV] at h
    split at h
    · exact y_pickT (by assumption) h
    · exact y_pickF (by assumption) h
    · cases h
  | nilCheck x =>
    simp only [pureV] at h
    split at h
    · injection h with h; subst h; exact y_nilP (by assumption)
    · cases h
  | unOp o t x =>
    cases o <;> simp only [pureV] at h <;> try (cases h; done)
    split at h
    · injection h with h; subst h; exact y_not (by assumption)
    · cases h
  | extract x i =>
    simp only [pureV] at h
    split at h
    · rename_i vs hx
      refine ⟨fun a w hf _ => ?_⟩
      simp [execOp, hf.eval hx, Instr.extract, h]
    · cases h
  | binOp o t x y t' =>
    simp only [pureV] at h
    split at h
    · rename_i k a k' b hx hy
      split at h
      · rename_i hk
        subst hk
        cases o <;> simp only at h <;> try (cases h; done)
        all_goals (injection h with h; subst h; first | exact y_lt hx hy | exact y_gt hx hy | exact y_le hx hy | exact y_ge hx hy | exact y_eq hx hy | exact y_ne hx hy)
      · cases h
    · cases h
  | _ => cases h

theorem CW_condP {c : Operand} {x y : Code} {p : Prop} [Decidable p] (hc : opv ρ c = some (.bool (decide p))) (h : p) (ht : CW P K Q x ρ m) : CW P K Q (.cond c x y) ρ m := CW_condT (by rw [hc, decide_eq_true h]) ht
theorem CW_condN {c : Operand} {x y : Code} {p : Prop} [Decidable p] (hc : opv ρ c = some (.bool (decide p))) (h : ¬ p) (hf : CW P K Q y ρ m) : CW P K Q (.cond c x y) ρ m := CW_condF (by rw [hc, decide_eq_false h]) hf
theorem CW_condD {c : Operand} {x y : Code} {p : Prop} [Decidable p] (hc : opv ρ c = some (.bool (decide p))) (ht : p → CW P K Q x ρ m) (hf : ¬ p → CW P K Q y ρ m) : CW P K Q (.cond c x y) ρ m :=
  CW_cond hc (fun h => ht (of_decide_eq_true h)) (fun h => hf (of_decide_eq_false h))

def gslot (ops : Array Oper) (g : Option (Nat × Bool)) : Option Nat := g.bind fun jw => (ops[jw.1]?).bind (·.dst)
section
variable {d : Option Nat} {op : Op} {n : Nat} {p : Prop} [Decidable p]
theorem WL_set {c : Bool} {b : Bool} (h : ρ.find n = some (.bool b)) (e : b = c) (k : WL P K ops Q rest ((n, .bool c) :: ρ) m) : WL P K ops Q rest ρ m := ⟨fun a w hf hm => k.run a w (hf.cov (Cov.cons h (by rw [e]) (fun _ _ h => h))) hm⟩
theorem WQ_set {c : Bool} {b : Bool} (h : ρ.find n = some (.bool b)) (e : b = c) (k : WQ P K ops L rest ((n, .bool c) :: ρ) m) : WQ P K ops L rest ρ m := ⟨fun a hf => k.run a (hf.cov (Cov.cons h (by rw [e]) (fun _ _ h => h)))⟩
theorem WL_gP (_ : gslot ops g = some n) (h : ρ.find n = some (.bool (decide p))) (hp : p) (k : WL P K ops Q (⟨d, op, ty, pos, aft, g⟩ :: rest) ((n, .bool true) :: ρ) m) : WL P K ops Q (⟨d, op, ty, pos, aft, g⟩ :: rest) ρ m := WL_set h (decide_eq_true hp) k
theorem WL_gN (_ : gslot ops g = some n) (h : ρ.find n = some (.bool (decide p))) (hp : ¬ p) (k : WL P K ops Q (⟨d, op, ty, pos, aft, g⟩ :: rest) ((n, .bool false) :: ρ) m) : WL P K ops Q (⟨d, op, ty, pos, aft, g⟩ :: rest) ρ m := WL_set h (decide_eq_false hp) k
theorem WL_gD (_ : gslot ops g = some n) (h : ρ.find n = some (.bool (decide p))) (kt : p → WL P K ops Q (⟨d, op, ty, pos, aft, g⟩ :: rest) ((n, .bool true) :: ρ) m) (kf : ¬ p → WL P K ops Q (⟨d, op, ty, pos, aft, g⟩ :: rest) ((n, .bool false) :: ρ) m) : WL P K ops Q (⟨d, op, ty, pos, aft, g⟩ :: rest) ρ m :=
  WL_split n h (fun h => kt (of_decide_eq_true h)) (fun h => kf (of_decide_eq_false h))
theorem WL_gB {b : Bool} (_ : gslot ops g = some n) (h : ρ.find n = some (.bool b)) (kt : b = true → WL P K ops Q (⟨d, op, ty, pos, aft, g⟩ :: rest) ((n, .bool true) :: ρ) m) (kf : b = false → WL P K ops Q (⟨d, op, ty, pos, aft, g⟩ :: rest) ((n, .bool false) :: ρ) m) : WL P K ops Q (⟨d, op, ty, pos, aft, g⟩ :: rest) ρ m :=
  WL_split n h kt kf
theorem WQ_gP (_ : gslot ops g = some n) (h : ρ.find n = some (.bool (decide p))) (hp : p) (k : WQ P K ops L (⟨d, op, ty, pos, aft, g⟩ :: rest) ((n, .bool true) :: ρ) m) : WQ P K ops L (⟨d, op, ty, pos, aft, g⟩ :: rest) ρ m := WQ_set h (decide_eq_true hp) k
theorem WQ_gN (_ : gslot ops g = some n) (h : ρ.find n = some (.bool (decide p))) (hp : ¬ p) (k : WQ P K ops L (⟨d, op, ty, pos, aft, g⟩ :: rest) ((n, .bool false) :: ρ) m) : WQ P K ops L (⟨d, op, ty, pos, aft, g⟩ :: rest) ρ m := WQ_set h (decide_eq_false hp) k
theorem WQ_gD (_ : gslot ops g = some n) (h : ρ.find n = some (.bool (decide p))) (kt : p → WQ P K ops L (⟨d, op, ty, pos, aft, g⟩ :: rest) ((n, .bool true) :: ρ) m) (kf : ¬ p → WQ P K ops L (⟨d, op, ty, pos, aft, g⟩ :: rest) ((n, .bool false) :: ρ) m) : WQ P K ops L (⟨d, op, ty, pos, aft, g⟩ :: rest) ρ m :=
  WQ_split n h (fun h => kt (of_decide_eq_true h)) (fun h => kf (of_decide_eq_false h))
end

/-! ## where ways meet; loops: short forms -/
def leavesC : Code → Bool
  | .ret | .exit _ | .goto _ => true
  | .seq a b => leavesC a || leavesC b
  | .cond _ a b => leavesC a && leavesC b
  | _ => false
/-- is it a test of which both ways go on? -/
def joinsC : Code → Bool
  | .cond _ a b => !(leavesC a || leavesC b)
  | .seq (.region _ _ _) b => joinsC b
  | _ => false
theorem CW_seqN {x y : Code} (_ : joinsC x = false) (h : CW P K (QSeq P y Q) x ρ m) : CW P K Q (.seq x y) ρ m := CW_seq h
/-- kp: the slots that stay as they are -/
theorem CW_cutK {X : Type} (kp : Env) (hk : Cov ρ kp) (R : X → Env) (M : X → List HP) (I : X → Prop) {x y : Code} (h : Cov ρ kp → CW P K (QMid K (fun z => R z ++ kp) M I Q) x ρ m) (k : ∀ z, I z → CW P K Q y (R z ++ kp) (M z)) : CW P K Q (.seq x y) ρ m := CW_cut _ M I (h hk) k
theorem CW_cutP {X : Type} (kp : Env) (hk : Cov ρ kp) (R : X → Env) (I : X → Prop) {x y : Code} (h : CW P K (QMid K (fun z => R z ++ kp) (fun _ => m) I Q) x ρ m) (k : ∀ z, I z → CW P K Q y (R z ++ kp) m) : CW P K Q (.seq x y) ρ m := CW_cutK kp hk R (fun _ => m) I (fun _ => h) k
theorem CW_loopK {X : Type} (kp : Env) (hk : Cov ρ kp) (R : X → Env) (M : X → List HP) (I : X → Prop) (μ : X → Nat) (x0 : X) (h0 : I x0) (hρ : Cov ρ (R x0)) (hm : Ent m (M x0)) {c : Code}
    (round : ∀ x, I x → CW P K (QLoop K (fun z => R z ++ kp) M I μ x Q) c (R x ++ kp) (M x)) : CW P K Q (.loop c) ρ m := by
  refine CW_loop (fun z => R z ++ kp) M I μ x0 h0 ?_ hm round
  intro n v hv
  have key : ∀ (l : Env), (l ++ kp).find n = some v → l.find n = some v ∨ kp.find n = some v := by
    intro l
    induction l with
    | nil => intro h; exact .inr h
    | cons a l ih =>
      obtain ⟨j, u⟩ := a
      intro h
      rw [List.cons_append, find_cons] at h
      rw [find_cons]
      by_cases hj : j = n
      · rw [if_pos hj] at h ⊢; exact .inl h
      · rw [if_neg hj] at h ⊢; exact ih h
  rcases key _ hv with h | h
  · exact hρ n v h
  · exact hk n v h
theorem EX_mid' {X : Type} {R : X → Env} {M : X → List HP} {I : X → Prop} (x : X) (h : Cov ρ (R x) ∧ Ent m (M x) ∧ I x) : EX K (QMid K R M I Q) .normal ρ m := EX_mid x h.2.2 h.1 h.2.1
theorem EX_loop' {X : Type} {R : X → Env} {M : X → List HP} {I : X → Prop} {μ : X → Nat} {x : X} (x' : X) (h : Cov ρ (R x') ∧ Ent m (M x') ∧ μ x' < μ x ∧ I x') : EX K (QLoop K R M I μ x Q) .normal ρ m := EX_loop x' h.2.2.2 h.2.2.1 h.1 h.2.1
theorem CW_loopP {X : Type} (kp : Env) (hk : Cov ρ kp) (R : X → Env) (I : X → Prop) (μ : X → Nat) (x0 : X) (h0 : I x0) (hρ : Cov ρ (R x0)) {c : Code}
    (round : ∀ x, I x → CW P K (QLoop K (fun z => R z ++ kp) (fun _ => m) I μ x Q) c (R x ++ kp) m) : CW P K Q (.loop c) ρ m := CW_loopK kp hk R (fun _ => m) I μ x0 h0 hρ Ent.refl round
end
end Go.Proofs.YtgjmgmejojbdeaaGreatDoor
