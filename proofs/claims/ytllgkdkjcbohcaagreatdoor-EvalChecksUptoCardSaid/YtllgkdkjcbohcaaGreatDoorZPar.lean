/-
  The logic of walks: a region that draws its order, of which parts that have nothing to do with one another go on side by side: each part is walked by itself. Of no program.
  The logic of walks: what a law does with what it is told. Of no program.
-/
import Derived.Test.YtllgkdkjcbohcaaGreatDoorZPerm
import Derived.Test.YtllgkdkjcbohcaaGreatDoorZRd
import Derived.Test.YtllgkdkjcbohcaaGreatDoorZTokRow
import Derived.Test.YtllgkdkjcbohcaaGreatDoorZGo
namespace Go.Proofs.YtllgkdkjcbohcaaGreatDoor
open Go.RowKit
/-! ## what is ready -/
def rdyB (ops : Array Oper) (D : List Nat) (i : Nat) : Bool := !D.contains i && match ops[i]? with
  | none => false
  | some o => o.after.all fun e => !Region.binds .any e || D.contains e.on
theorem rdyB_congr {ops : Array Oper} {D D' : List Nat} {i : Nat} (hi : D.contains i = D'.contains i) (h : ∀ o, ops[i]? = some o → ∀ e ∈ o.after, D.contains e.on = D'.contains e.on) : rdyB ops D i = rdyB ops D' i := by
  unfold rdyB
  rw [hi]
  cases ho : ops[i]? with
  | none => rfl
  | some o =>
    simp only
    have : (o.after.all fun e => !Region.binds .any e || D.contains e.on) = (o.after.all fun e => !Region.binds .any e || D'.contains e.on) := by
      rw [Bool.eq_iff_iff, Array.all_eq_true_iff_forall_mem, Array.all_eq_true_iff_forall_mem]
      exact ⟨fun k e he => by rw [← h o ho e he]; exact k e he, fun k e he => by rw [h o ho e he]; exact k e he⟩
    rw [this]
/-- no operation of the one part waits for one of the other -/
def apartB (ops : Array Oper) (S T : List Nat) : Bool := S.all fun i => !T.contains i && match ops[i]? with
  | none => true
  | some o => o.after.all fun e => !T.contains e.on
theorem apartB_congr {ops : Array Oper} {S T D D' : List Nat} {i : Nat} (hB : apartB ops S T = true) (hS : S.contains i = true) (h : ∀ j, T.contains j = false → D.contains j = D'.contains j) : D.contains i = D'.contains i ∧ rdyB ops D i = rdyB ops D' i := by
  have h1 := List.all_eq_true.1 hB i (by simpa using hS)
  simp only [Bool.and_eq_true, Bool.not_eq_true'] at h1
  have h2 := h i h1.1
  refine ⟨h2, rdyB_congr h2 fun o ho e he => ?_⟩
  have h3 := h1.2
  rw [ho] at h3
  simp only [Array.all_eq_true_iff_forall_mem, Bool.not_eq_true'] at h3
  exact h _ (h3 e he)
/-- the slots that a part writes are not among these -/
def freshB (ops : Array Oper) (S : List Nat) (ρ : Env) : Bool := S.all fun i => match ops[i]? with
  | none => true
  | some o => match o.dst with
    | none => true
    | some d => (ρ.find d).isNone
/-- the slots that two parts write are apart -/
def dstB (ops : Array Oper) (S T : List Nat) : Bool := S.all fun i => T.all fun j => match (ops[i]?).bind (·.dst), (ops[j]?).bind (·.dst) with
  | some d, some d' => d != d'
  | _, _ => true
section
variable {P : Program} {K : Cx} {ops : Array Oper} {m0 : List HP}
/-- one operation, wherever else memory turns -/
def Stp (P : Program) (K : Cx) (ops : Array Oper) (m0 : List HP) (i : Nat) (ρ : Env) (m : List HP) (next : Env → List HP → Prop) : Prop :=
  ∃ (d : Nat) (op : Op) (ty : TypeId) (pos : String) (aft : Array Edge), ops[i]? = some ⟨some d, op, ty, pos, aft, none⟩ ∧ d < K.N ∧
    ∃ (X : Type) (V : X → Value) (M : X → List HP), (∀ r a W, (∃ pm, Ent r (pm ++ m0)) → Fits K.N K.D a ρ → Holds K.w0 K.F (m ++ r) W →
      pUpon P (fun _ _ => False) ⟨some d, op, ty, pos, aft, none⟩ V (fun x => Holds K.w0 K.F (M x ++ r)) ((execOp a.eval ⟨some d, op, ty, pos, aft, none⟩).run P W)) ∧
      ∀ x, next ((d, V x) :: ρ) (M x)
/-- the operations of a part, in any order in which they may come -/
def Pr (P : Program) (K : Cx) (ops : Array Oper) (m0 : List HP) (post : Env → List HP → Prop) : Nat → List Nat → List Nat → Env → List HP → Prop
  | 0, S, D, ρ, m => S.all (D.contains ·) = true ∧ post ρ m
  | f + 1, S, D, ρ, m => (∃ i ∈ S, rdyB ops D i = true) ∧ ∀ i ∈ S, rdyB ops D i = true → Stp P K ops m0 i ρ m fun ρ' m' => Pr P K ops m0 post f S (i :: D) ρ' m'
theorem Stp.mono {i : Nat} {ρ : Env} {m : List HP} {n1 n2 : Env → List HP → Prop} (h : ∀ ρ m, n1 ρ m → n2 ρ m) (k : Stp P K ops m0 i ρ m n1) : Stp P K ops m0 i ρ m n2 := by
  obtain ⟨d, op, ty, pos, aft, h1, h2, X, V, M, h3, h4⟩ := k
  exact ⟨d, op, ty, pos, aft, h1, h2, X, V, M, h3, fun x => h _ _ (h4 x)⟩
theorem Stp.ent {i : Nat} {ρ : Env} {m m' : List HP} {n1 : Env → List HP → Prop} (e : Ent m m') (k : Stp P K ops m0 i ρ m' n1) : Stp P K ops m0 i ρ m n1 := by
  obtain ⟨d, op, ty, pos, aft, h1, h2, X, V, M, h3, h4⟩ := k
  refine ⟨d, op, ty, pos, aft, h1, h2, X, V, M, fun r a W hr hf hm => h3 r a W hr hf (hm.ent ?_), h4⟩
  intro fp w ho
  obtain ⟨f1, f2, rfl, k1, k2, kd⟩ := Own.split ho
  obtain ⟨f3, k3, hs⟩ := e f1 w k1
  have app : ∀ (m1 : List HP) (f1 f2 : List Nat), Own m1 f1 w → Own r f2 w → (∀ i ∈ f1, i ∉ f2) → Own (m1 ++ r) (f1 ++ f2) w := by
    intro m1
    induction m1 with
    | nil => intro f1 f2 h h2 _; have : f1 = [] := h; subst this; exact h2
    | cons x m1 ih =>
      rintro f1 f2 ⟨a, b, rfl, ha, hb, hd⟩ h2 hd2
      exact ⟨a, b ++ f2, by simp, ha, ih _ _ hb h2 (fun i hi => hd2 i (List.mem_append.2 (.inr hi))), fun i hi h => by
        rcases List.mem_append.1 h with h | h
        · exact hd i hi h
        · exact hd2 i (List.mem_append.2 (.inl hi)) h⟩
  refine ⟨f3 ++ f2, app _ _ _ k3 k2 (fun i hi h => kd i (hs i hi) h), fun i hi => ?_⟩
  rcases List.mem_append.1 hi with hi | hi
  · exact List.mem_append.2 (.inl (hs i hi))
  · exact List.mem_append.2 (.inr hi)
theorem Ent.appL {l r r' : List HP} (h : Ent r r') : Ent (l ++ r) (l ++ r') := by
  induction l with
  | nil => exact h
  | cons x l ih => exact Ent.cons .here ih
theorem Pick.mid {a r : List HP} {h : HP} : Pick (a ++ h :: r) h (a ++ r) := by
  induction a with
  | nil => exact .here
  | cons x a ih => exact .there ih
theorem Ent.swapA : ∀ {b a r : List HP}, Ent ((a ++ b) ++ r) (b ++ (a ++ r))
  | [], a, r => by simpa using Ent.refl
  | h :: b, a, r => by
    rw [List.append_assoc]
    refine Ent.cons (r := a ++ (b ++ r)) Pick.mid ?_
    rw [← List.append_assoc]
    exact Ent.swapA
theorem Ent.swapB : ∀ {b a r : List HP}, Ent (b ++ (a ++ r)) ((a ++ b) ++ r)
  | b, [], r => by simpa using Ent.refl
  | b, h :: a, r => by
    refine Ent.cons (r := b ++ (a ++ r)) Pick.mid ?_
    exact Ent.swapB
theorem find_fresh {S : List Nat} {ρ : Env} {i d : Nat} {op : Op} {ty : TypeId} {pos : String} {aft : Array Edge} {g : Option (Nat × Bool)} (h : freshB ops S ρ = true) (hi : i ∈ S) (ho : ops[i]? = some ⟨some d, op, ty, pos, aft, g⟩) : ρ.find d = none := by
  have := List.all_eq_true.1 h i hi
  rw [ho] at this
  simpa using this
theorem fresh_cons {S : List Nat} {ρ : Env} {T : List Nat} {i d : Nat} {v : Value} {op : Op} {ty : TypeId} {pos : String} {aft : Array Edge} {g : Option (Nat × Bool)} (h : freshB ops S ρ = true) (hd : dstB ops T S = true) (hi : i ∈ T) (ho : ops[i]? = some ⟨some d, op, ty, pos, aft, g⟩) : freshB ops S ((d, v) :: ρ) = true := by
  refine List.all_eq_true.2 fun j hj => ?_
  have h1 := List.all_eq_true.1 h j hj
  have h2 := List.all_eq_true.1 (List.all_eq_true.1 hd i hi) j hj
  rw [ho] at h2
  cases hoj : ops[j]? with
  | none => rfl
  | some o =>
    rw [hoj] at h1 h2
    simp only at h1 h2 ⊢
    cases hdst : o.dst with
    | none => rfl
    | some d' =>
      rw [hdst] at h1
      simp only [Option.bind_some, hdst, bne_iff_ne, ne_eq] at h1 h2 ⊢
      have : Env.find ((d, v) :: ρ) d' = ρ.find d' := by
        rw [find_cons, if_neg h2]
      rw [this]; exact h1
theorem cov_cons {ρ ρ1 : Env} {d : Nat} {v : Value} (h : Cov ρ ρ1) : Cov ((d, v) :: ρ) ((d, v) :: ρ1) := fun n u hu => by
  rw [find_cons] at hu ⊢
  by_cases he : d = n
  · rw [if_pos he] at hu ⊢; exact hu
  · rw [if_neg he] at hu ⊢; exact h n u hu
theorem cov_fresh {ρ ρ1 : Env} {d : Nat} {v : Value} (h : Cov ρ ρ1) (hd : ρ1.find d = none) : Cov ((d, v) :: ρ) ρ1 := fun n u hu => by
  rw [find_cons]
  by_cases he : d = n
  · subst he
    rw [hd] at hu; cases hu
  · rw [if_neg he]; exact h n u hu
/-- two parts, side by side -/
theorem Pr_par {S1 S2 : List Nat} (h12 : apartB ops S1 S2 = true) (h21 : apartB ops S2 S1 = true) (hd12 : dstB ops S1 S2 = true) (hd21 : dstB ops S2 S1 = true) {p1 p2 post : Env → List HP → Prop}
    (hp : ∀ ρ ρ1 ρ2 m1 m2, Cov ρ ρ1 → Cov ρ ρ2 → p1 ρ1 m1 → p2 ρ2 m2 → post ρ (m1 ++ m2)) :
    ∀ (n f1 f2 : Nat) (D D1 D2 : List Nat) (ρ ρ1 ρ2 : Env) (m1 m2 : List HP), f1 + f2 = n → (∀ j, S2.contains j = false → D.contains j = D1.contains j) → (∀ j, S1.contains j = false → D.contains j = D2.contains j) →
      Cov ρ ρ1 → Cov ρ ρ2 → freshB ops S1 ρ2 = true → freshB ops S2 ρ1 = true →
      Pr P K ops m0 p1 f1 S1 D1 ρ1 m1 → Pr P K ops m0 p2 f2 S2 D2 ρ2 m2 → Pr P K ops m0 post n (S1 ++ S2) D ρ (m1 ++ m2) := by
  intro n
  induction n with
  | zero =>
    intro f1 f2 D D1 D2 ρ ρ1 ρ2 m1 m2 hn e1 e2 c1 c2 _ _ k1 k2
    obtain rfl : f1 = 0 := by omega
    obtain rfl : f2 = 0 := by omega
    refine ⟨List.all_eq_true.2 fun i hi => ?_, hp _ _ _ _ _ c1 c2 k1.2 k2.2⟩
    rcases List.mem_append.1 hi with hi | hi
    · rw [(apartB_congr h12 (by simpa using hi) e1).1]; exact List.all_eq_true.1 k1.1 i hi
    · rw [(apartB_congr h21 (by simpa using hi) e2).1]; exact List.all_eq_true.1 k2.1 i hi
  | succ n ih =>
    intro f1 f2 D D1 D2 ρ ρ1 ρ2 m1 m2 hn e1 e2 c1 c2 w1 w2 k1 k2
    have no0 : ∀ {S D' : List Nat} {p : Env → List HP → Prop} {ρ' : Env} {m' : List HP} {i : Nat}, Pr P K ops m0 p 0 S D' ρ' m' → i ∈ S → rdyB ops D' i = true → False := fun k hi hr => by
      have := List.all_eq_true.1 k.1 _ hi
      unfold rdyB at hr
      rw [this] at hr
      simp at hr
    refine ⟨?_, fun i hi hr => ?_⟩
    · cases f1 with
      | succ f1 =>
        obtain ⟨i, hi, hr⟩ := k1.1
        exact ⟨i, List.mem_append.2 (.inl hi), by rw [(apartB_congr h12 (by simpa using hi) e1).2]; exact hr⟩
      | zero =>
        obtain ⟨f2, rfl⟩ : ∃ q, f2 = q + 1 := ⟨f2 - 1, by omega⟩
        obtain ⟨i, hi, hr⟩ := k2.1
        exact ⟨i, List.mem_append.2 (.inr hi), by rw [(apartB_congr h21 (by simpa using hi) e2).2]; exact hr⟩
    · rcases List.mem_append.1 hi with hi | hi
      · have hr1 : rdyB ops D1 i = true := by rw [← (apartB_congr h12 (by simpa using hi) e1).2]; exact hr
        cases f1 with
        | zero => exact (no0 k1 hi hr1).elim
        | succ f1 =>
          obtain ⟨d, op, ty, pos, aft, ho, hdN, X, V, M, h3, h4⟩ := k1.2 i hi hr1
          refine ⟨d, op, ty, pos, aft, ho, hdN, X, V, fun x => M x ++ m2, fun r a W hr hf hm => ?_, fun x => ?_⟩
          · have h5 := h3 (m2 ++ r) a W (by obtain ⟨pm, hpm⟩ := hr; exact ⟨m2 ++ pm, by rw [List.append_assoc]; exact Ent.appL hpm⟩) (hf.cov c1) (by rw [← List.append_assoc]; exact hm)
            simp only [List.append_assoc]
            exact h5
          · refine ih f1 f2 (i :: D) (i :: D1) D2 _ _ _ _ _ (by omega) (fun j hj => ?_) (fun j hj => ?_) (cov_cons c1) (cov_fresh c2 (find_fresh w1 hi ho)) w1 (fresh_cons w2 hd12 hi ho) (h4 x) k2
            · simp only [List.contains_cons]; rw [e1 j hj]
            · simp only [List.contains_cons]
              rw [e2 j hj]
              have : (j == i) = false := by
                cases hji : j == i with
                | false => rfl
                | true => have := eq_of_beq hji; subst this; rw [show S1.contains j = true by simpa using hi] at hj; cases hj
              rw [this]; rfl
      · have hr2 : rdyB ops D2 i = true := by rw [← (apartB_congr h21 (by simpa using hi) e2).2]; exact hr
        cases f2 with
        | zero => exact (no0 k2 hi hr2).elim
        | succ f2 =>
          obtain ⟨d, op, ty, pos, aft, ho, hdN, X, V, M, h3, h4⟩ := k2.2 i hi hr2
          refine ⟨d, op, ty, pos, aft, ho, hdN, X, V, fun x => m1 ++ M x, fun r a W hr hf hm => ?_, fun x => ?_⟩
          · have h5 := h3 (m1 ++ r) a W (by obtain ⟨pm, hpm⟩ := hr; exact ⟨m1 ++ pm, by rw [List.append_assoc]; exact Ent.appL hpm⟩) (hf.cov c2) (hm.ent Ent.swapA)
            revert h5
            generalize (execOp a.eval _).run P W = res
            intro h5
            cases res with
            | halt y z => exact h5
            | ok nx w' =>
              cases nx <;> simp only [pUpon] at h5 ⊢
              case value u =>
                obtain ⟨x, hx, hh⟩ := h5
                exact ⟨x, hx, hh.ent Ent.swapB⟩
              case skip =>
                obtain ⟨hd, x, hh⟩ := h5
                exact ⟨hd, x, hh.ent Ent.swapB⟩
              case enter f args =>
                refine h5.mono fun e w'' hq => ?_
                rcases hq with ⟨x, he, hh⟩ | hq
                · exact .inl ⟨x, he, hh.ent Ent.swapB⟩
                · exact .inr hq
          · refine ih f1 f2 (i :: D) D1 (i :: D2) _ _ _ _ _ (by omega) (fun j hj => ?_) (fun j hj => ?_) (cov_fresh c1 (find_fresh w2 hi ho)) (cov_cons c2) (fresh_cons w1 hd21 hi ho) w2 k1 (h4 x)
            · simp only [List.contains_cons]
              rw [e1 j hj]
              have : (j == i) = false := by
                cases hji : j == i with
                | false => rfl
                | true => have := eq_of_beq hji; subst this; rw [show S2.contains j = true by simpa using hi] at hj; cases hj
              rw [this]; rfl
            · simp only [List.contains_cons]; rw [e2 j hj]
/-! ## one part behind another -/
theorem Pr_congr {S : List Nat} {post : Env → List HP → Prop} : ∀ (f : Nat) (D D' : List Nat) (ρ : Env) (m : List HP), (∀ j, D.contains j = D'.contains j) → Pr P K ops m0 post f S D ρ m → Pr P K ops m0 post f S D' ρ m
  | 0, D, D', ρ, m, h, k => ⟨List.all_eq_true.2 fun i hi => by rw [← h i]; exact List.all_eq_true.1 k.1 i hi, k.2⟩
  | f + 1, D, D', ρ, m, h, k => by
    have hr : ∀ i, rdyB ops D i = rdyB ops D' i := fun i => rdyB_congr (h i) fun o _ e _ => h e.on
    refine ⟨by obtain ⟨i, hi, h1⟩ := k.1; exact ⟨i, hi, by rw [← hr]; exact h1⟩, fun i hi h1 => (k.2 i hi (by rw [hr]; exact h1)).mono fun ρ' m' k' => Pr_congr f _ _ ρ' m' (fun j => by simp only [List.contains_cons]; rw [h j]) k'⟩
theorem rdy_not {D : List Nat} {i : Nat} (h : rdyB ops D i = true) : D.contains i = false := by
  unfold rdyB at h
  simp only [Bool.and_eq_true, Bool.not_eq_true'] at h
  exact h.1
/-- what is done already may be named, too -/
theorem Pr_more {S1 S2 : List Nat} {post : Env → List HP → Prop} : ∀ (f : Nat) (D : List Nat) (ρ : Env) (m : List HP), S1.all (D.contains ·) = true → Pr P K ops m0 post f S2 D ρ m → Pr P K ops m0 post f (S1 ++ S2) D ρ m
  | 0, D, ρ, m, h, k => ⟨by rw [List.all_append, h, k.1]; rfl, k.2⟩
  | f + 1, D, ρ, m, h, k => by
    refine ⟨by obtain ⟨i, hi, h1⟩ := k.1; exact ⟨i, List.mem_append.2 (.inr hi), h1⟩, fun i hi h1 => ?_⟩
    rcases List.mem_append.1 hi with hi | hi
    · have := List.all_eq_true.1 h i hi
      rw [rdy_not h1] at this; cases this
    · exact (k.2 i hi h1).mono fun ρ' m' k' => Pr_more f _ ρ' m' (List.all_eq_true.2 fun j hj => by simp only [List.contains_cons]; rw [List.all_eq_true.1 h j hj]; simp) k'
def subs : List Nat → List (List Nat)
  | [] => [[]]
  | a :: l => subs l ++ (subs l).map (a :: ·)
theorem mem_subs (p : Nat → Bool) : ∀ l : List Nat, l.filter p ∈ subs l
  | [] => by simp [subs]
  | a :: l => by
    rw [List.filter_cons]
    split
    · exact List.mem_append.2 (.inr (List.mem_map.2 ⟨_, mem_subs p l, rfl⟩))
    · exact List.mem_append.2 (.inl (mem_subs p l))
/-- what is done does not wait for anything that is not -/
def closedB (ops : Array Oper) (L D0 : List Nat) : Bool := L.all fun i => match ops[i]? with
  | none => true
  | some o => o.after.all fun e => !Region.binds .any e || (L ++ D0).contains e.on
/-- nothing of the second part is ready before the first one is done -/
def behindB (ops : Array Oper) (S1 S2 D0 : List Nat) : Bool := (subs S1).all fun L => !closedB ops L D0 || S1.all (L.contains ·) || S2.all fun j => !rdyB ops (L ++ D0) j
theorem closed_of {L L' D0 : List Nat} (h : ∀ j, L.contains j = L'.contains j) (hc : closedB ops L D0 = true) : closedB ops L' D0 = true := by
  refine List.all_eq_true.2 fun i hi => ?_
  have hi' : i ∈ L := by
    have : L'.contains i = true := by simpa using hi
    rw [← h] at this; simpa using this
  have h1 := List.all_eq_true.1 hc i hi'
  cases ho : ops[i]? with
  | none => rfl
  | some o =>
    rw [ho] at h1
    simp only [Array.all_eq_true_iff_forall_mem] at h1 ⊢
    intro e he
    have h2 := h1 e he
    have h3 : (L ++ D0).contains e.on = (L' ++ D0).contains e.on := by
      have := h e.on
      rw [Bool.eq_iff_iff] at this ⊢
      simp only [List.contains_iff_mem, List.mem_append] at this ⊢
      rw [this]
    rw [← h3]; exact h2
theorem closed_cons {L D0 : List Nat} {i : Nat} (hc : closedB ops L D0 = true) (hr : rdyB ops (L ++ D0) i = true) : closedB ops (i :: L) D0 = true := by
  have hmem : ∀ j, (L ++ D0).contains j = true → ((i :: L) ++ D0).contains j = true := fun j h => by
    rw [List.cons_append, List.contains_cons, h]; simp
  refine List.all_eq_true.2 fun k hk => ?_
  rcases List.mem_cons.1 hk with rfl | hk
  · unfold rdyB at hr
    simp only [Bool.and_eq_true] at hr
    cases ho : ops[k]? with
    | none => rfl
    | some o =>
      have h1 := hr.2
      rw [ho] at h1
      simp only [Array.all_eq_true_iff_forall_mem, Bool.or_eq_true] at h1 ⊢
      exact fun e he => (h1 e he).imp id (hmem _)
  · have h1 := List.all_eq_true.1 hc k hk
    cases ho : ops[k]? with
    | none => rfl
    | some o =>
      rw [ho] at h1
      simp only [Array.all_eq_true_iff_forall_mem, Bool.or_eq_true] at h1 ⊢
      exact fun e he => (h1 e he).imp id (hmem _)
theorem Pr_seq {S1 S2 D0 : List Nat} (hb : behindB ops S1 S2 D0 = true) {f2 : Nat} {mid post : Env → List HP → Prop} (h2 : ∀ ρ m, mid ρ m → Pr P K ops m0 post f2 S2 (S1 ++ D0) ρ m) :
    ∀ (f1 : Nat) (L : List Nat) (ρ : Env) (m : List HP), (∀ i ∈ L, i ∈ S1) → closedB ops L D0 = true → Pr P K ops m0 mid f1 S1 (L ++ D0) ρ m → Pr P K ops m0 post (f1 + f2) (S1 ++ S2) (L ++ D0) ρ m
  | 0, L, ρ, m, hL, _, k => by
    rw [Nat.zero_add]
    refine Pr_more f2 _ ρ m k.1 (Pr_congr f2 _ _ ρ m (fun j => ?_) (h2 ρ m k.2))
    have hc : ∀ A B : List Nat, (A ++ B).contains j = (A.contains j || B.contains j) := fun A B => by
      rw [Bool.eq_iff_iff]; simp
    rw [hc, hc]
    cases hD : D0.contains j with
    | true => simp
    | false =>
      simp only [Bool.or_false]
      rw [Bool.eq_iff_iff]
      constructor
      · intro hj
        have hj' : j ∈ S1 := by simpa using hj
        have := List.all_eq_true.1 k.1 j hj'
        rw [hc, hD, Bool.or_false] at this
        exact this
      · intro hj
        simpa using hL j (by simpa using hj)
  | f1 + 1, L, ρ, m, hL, hcl, k => by
    rw [show f1 + 1 + f2 = (f1 + f2) + 1 by omega]
    obtain ⟨i0, hi0, hr0⟩ := k.1
    refine ⟨⟨i0, List.mem_append.2 (.inl hi0), hr0⟩, fun i hi h1 => ?_⟩
    rcases List.mem_append.1 hi with hi | hi
    · exact (k.2 i hi h1).mono fun ρ' m' k' => Pr_seq hb h2 f1 (i :: L) ρ' m' (fun j hj => by rcases List.mem_cons.1 hj with rfl | hj; exact hi; exact hL j hj) (closed_cons hcl h1) k'
    · have hsub : ∀ j, L.contains j = (S1.filter (L.contains ·)).contains j := fun j => by
        rw [Bool.eq_iff_iff]
        simp only [List.contains_iff_mem, List.mem_filter]
        exact ⟨fun h => ⟨hL j h, by simpa using h⟩, fun h => by simpa using h.2⟩
      have h3 := List.all_eq_true.1 hb _ (mem_subs (L.contains ·) S1)
      simp only [Bool.or_eq_true, closed_of hsub hcl, Bool.not_true, Bool.false_eq_true, false_or] at h3
      rcases h3 with h3 | h3
      · have h4 := List.all_eq_true.1 h3 i0 hi0
        rw [← hsub] at h4
        have h6 := rdy_not hr0
        have h7 : i0 ∈ L := by simpa using h4
        have h8 : (L ++ D0).contains i0 = true := by simp [h7]
        rw [h8] at h6
        cases h6
      · have h4 := List.all_eq_true.1 h3 i hi
        have h5 : ∀ j, (S1.filter (L.contains ·) ++ D0).contains j = (L ++ D0).contains j := fun j => by
          have := hsub j
          rw [Bool.eq_iff_iff] at this ⊢
          simp only [List.contains_iff_mem, List.mem_append] at this ⊢
          rw [this]
        rw [rdyB_congr (h5 i) (fun o _ e _ => h5 e.on)] at h4
        rw [h1] at h4
        cases h4
theorem Pr_cov {S : List Nat} {post : Env → List HP → Prop} (hpo : ∀ ρ ρ' m, Cov ρ ρ' → post ρ' m → post ρ m) : ∀ (f : Nat) (D : List Nat) (ρ ρ' : Env) (m : List HP), Cov ρ ρ' → Pr P K ops m0 post f S D ρ' m → Pr P K ops m0 post f S D ρ m
  | 0, _, _, _, _, h, k => ⟨k.1, hpo _ _ _ h k.2⟩
  | f + 1, D, _, _, _, h, k => ⟨k.1, fun i hi hr => by
    obtain ⟨d, op, ty, pos, aft, h1, h2, X, V, M, h3, h4⟩ := k.2 i hi hr
    exact ⟨d, op, ty, pos, aft, h1, h2, X, V, M, fun r a W hr hf hm => h3 r a W hr (hf.cov h) hm, fun x => Pr_cov hpo f (i :: D) _ _ _ (cov_cons h) (h4 x)⟩⟩
/-! ## how it ends -/
theorem Pr_end {post : Env → List HP → Prop} {S D : List Nat} {ρ : Env} {m : List HP} (hS : S.all (D.contains ·) = true) (h : post ρ m) : Pr P K ops m0 post 0 S D ρ m := ⟨hS, h⟩
/-- just one is ready -/
theorem Pr_one {post : Env → List HP → Prop} {S D : List Nat} {ρ : Env} {m : List HP} (i : Nat) {f : Nat} (hr : (S.filter (rdyB ops D)) = [i]) (h : Stp P K ops m0 i ρ m fun ρ' m' => Pr P K ops m0 post f S (i :: D) ρ' m') : Pr P K ops m0 post (f + 1) S D ρ m := by
  have hi : i ∈ S.filter (rdyB ops D) := by rw [hr]; simp
  refine ⟨⟨i, (List.mem_filter.1 hi).1, (List.mem_filter.1 hi).2⟩, fun j hj hrj => ?_⟩
  have : j ∈ S.filter (rdyB ops D) := List.mem_filter.2 ⟨hj, hrj⟩
  rw [hr] at this
  obtain rfl : j = i := by simpa using this
  exact h
/-! ## the region -/
def fullA (ops : Array Oper) (n : Nat) : Array Bool := Array.replicate n true ++ Array.replicate (ops.size - n) false
theorem fullA_of {n : Nat} {listed : Array Bool} (hn : n < ops.size) (inv : HeadInv .any ops n listed) (h : ∀ j, j < n → listed.getD j false = true) : listed = fullA ops n := by
  unfold fullA
  refine Array.ext (by simp [inv.size]; omega) fun i h1 h2 => ?_
  by_cases hi : i < n
  · have := h i hi
    rw [Array.getElem_append_left (by simpa using hi)]
    simp [h1] at this
    simp [this]
  · have hsz : i < ops.size := by rw [← inv.size]; exact h1
    have := inv.tail i (by omega) hsz
    rw [Array.getElem_append_right (by simp; omega)]
    simp [h1] at this
    simp [this]
theorem rdy_of_ready {D : List Nat} {listed : Array Bool} (hl : ∀ j, listed.getD j false = D.contains j) {i : Nat} (hi : i ∈ Region.ready .any ops listed) : rdyB ops D i = true := by
  obtain ⟨h1, o, ho, h2⟩ := mem_ready.1 hi
  unfold rdyB
  rw [← hl i, getD_both h1, ho]
  simp only [Bool.not_false, Bool.true_and, Array.all_eq_true_iff_forall_mem, Bool.or_eq_true, Bool.not_eq_true']
  intro e he
  cases hb : Region.binds .any e with
  | false => exact .inl rfl
  | true => exact .inr (by rw [← hl]; exact h2 e he hb)
theorem ready_of_rdy {D : List Nat} {listed : Array Bool} (hsz : listed.size = ops.size) (hl : ∀ j, listed.getD j false = D.contains j) {i : Nat} (hi : rdyB ops D i = true) : i ∈ Region.ready .any ops listed := by
  unfold rdyB at hi
  simp only [Bool.and_eq_true, Bool.not_eq_true'] at hi
  obtain ⟨h1, h2⟩ := hi
  cases ho : ops[i]? with
  | none => rw [ho] at h2; cases h2
  | some o =>
    rw [ho] at h2
    simp only [Array.all_eq_true_iff_forall_mem, Bool.or_eq_true, Bool.not_eq_true'] at h2
    have hlt : i < listed.size := by rw [hsz]; exact (Array.getElem?_eq_some_iff.1 ho).1
    refine mem_ready.2 ⟨getD_in hlt (by rw [hl]; exact h1), o, ho, fun e he hb => ?_⟩
    rw [hl]
    rcases h2 e he with h | h
    · rw [hb] at h; cases h
    · exact h
theorem wpAnyP_of_Pr {n g : Nat} {S : List Nat} {post : Env → List HP → Prop} {Lq : Act → Cl → Prop} (hs : Region.sinkB .any ops n = true) (hc : Region.chainB .any ops n = true) (hn : n < ops.size) (hSn : ∀ j ∈ S, j < n) (hseq : Region.seqB .any ops g n (fullA ops n) = true)
    (hpost : ∀ ρ m a, post ρ m → Fits K.N K.D a ρ → Lq a (Holds K.w0 K.F (m ++ m0))) :
    ∀ (f : Nat) (D : List Nat) (ρ : Env) (m : List HP) (listed : Array Bool) (a : Act), Fits K.N K.D a ρ → HeadInv .any ops n listed → (∀ j, listed.getD j false = D.contains j) → (∀ j, j < n → D.contains j = true ∨ j ∈ S) → Pr P K ops m0 post f S D ρ m →
      wpAnyP P (fun _ _ => False) .any ops (Holds K.w0 K.F m0) n (fun listed' a' C' => Region.seqB .any ops g n listed' = true ∧ Lq a' C') f listed a (Holds K.w0 K.F (m ++ m0))
  | 0, D, ρ, m, listed, a, hf, inv, hl, hcov, k => by
    refine ⟨?_, hpost ρ m a k.2 hf⟩
    rw [fullA_of hn inv fun j hj => ?_]
    · exact hseq
    · rw [hl]
      rcases hcov j hj with h | h
      · exact h
      · exact List.all_eq_true.1 k.1 j h
  | f + 1, D, ρ, m, listed, a, hf, inv, hl, hcov, k => by
    obtain ⟨i0, hi0, hr0⟩ := k.1
    have hrd0 := ready_of_rdy inv.size hl hr0
    refine ⟨fun h => (by rw [h] at hrd0; cases hrd0), fun i hi => ?_⟩
    have hin : i < n := by
      rcases Nat.lt_or_ge i n with h | h
      · exact h
      · exact absurd hi (tail_waits hs hc hn inv _ i0 rfl (hSn i0 hi0) (mem_ready.1 hrd0).1 i h)
    refine ⟨hin, ?_⟩
    have hri := rdy_of_ready hl hi
    have hiS : i ∈ S := by
      rcases hcov i hin with h | h
      · rw [rdy_not hri] at h; cases h
      · exact h
    obtain ⟨d, op, ty, pos, aft, ho, hdN, X, V, M, h3, h4⟩ := k.2 i hiS hri
    unfold pOp
    simp only [ho]
    rw [if_pos (show Region.wanted _ _ = true from rfl)]
    refine .inr ⟨X, V, fun x => Holds K.w0 K.F (M x ++ m0), fun x => Holds.closed _ _ _, fun x W hW => hW.drop, fun W hW => h3 m0 a W ⟨[], Ent.refl⟩ hf hW, fun x => ?_⟩
    refine wpAnyP_of_Pr hs hc hn hSn hseq hpost f (i :: D) _ _ _ _ (hf.put hdN (V x)) (inv.set hi hin) (fun j => ?_) (fun j hj => ?_) (h4 x)
    · rw [List.contains_cons, ← hl j]
      by_cases hij : i = j
      · subst hij
        have hlt : i < listed.size := by rw [inv.size]; omega
        simp [hlt]
      · rw [getD_set_ne false hij]
        have : (j == i) = false := by simpa using fun h => hij h.symm
        rw [this]; rfl
    · rcases hcov j hj with h | h
      · exact .inl (by rw [List.contains_cons, h]; simp)
      · exact .inr h
/-- may these be walked first, in this order? -/
def freesB (ops : Array Oper) (n : Nat) : List Nat → Array Bool → Bool
  | [], _ => true
  | k :: r, listed => (Nat.blt k n && (Region.ready .any ops listed).contains k && Region.free .any ops listed k) && freesB ops n r (listed.setIfInBounds k true)
def setAll (l : List Nat) (listed : Array Bool) : Array Bool := l.foldl (fun a k => a.setIfInBounds k true) listed
theorem wpAnyP_frees {E : List PanicEntry → World → Prop} {C0 : Cl} {n g f : Nat} {Lq : Act → Cl → Prop} (hsel : Region.noSelect ops = true) (hs : Region.sinkB .any ops n = true) (hc : Region.chainB .any ops n = true) (hn : n < ops.size) :
    ∀ (l : List Nat) (listed : Array Bool) (a : Act) (C : Cl), HeadInv .any ops n listed → freesB ops n l listed = true →
      wpHeadP P E .any ops C0 (fun a C => HeadInv .any ops n (setAll l listed) → wpAnyP P E .any ops C0 n (fun listed' a' C' => Region.seqB .any ops g n listed' = true ∧ Lq a' C') f (setAll l listed) a C) l listed a C →
      wpAnyP P E .any ops C0 n (fun listed' a' C' => Region.seqB .any ops g n listed' = true ∧ Lq a' C') (l.length + f) listed a C
  | [], listed, a, C, inv, _, h => by
    simp only [List.length_nil, Nat.zero_add]
    exact h inv
  | k :: l, listed, a, C, inv, hB, h => by
    simp only [freesB, Bool.and_eq_true] at hB
    obtain ⟨⟨⟨hkn, hr⟩, hf⟩, hB'⟩ := hB
    have hkn : k < n := blt_lt hkn
    have hr' : k ∈ Region.ready .any ops listed := by simpa using hr
    unfold wpHeadP at h
    rw [show (k :: l).length + f = (l.length + f) + 1 by simp; omega]
    cases h0 : ops[k]? with
    | none => rw [h0] at h; exact h.elim
    | some o =>
      rw [h0] at h
      simp only at h
      have ih : ∀ a C, wpHeadP P E .any ops C0 (fun a C => HeadInv .any ops n (setAll l (listed.setIfInBounds k true)) → wpAnyP P E .any ops C0 n (fun listed' a' C' => Region.seqB .any ops g n listed' = true ∧ Lq a' C') f (setAll l (listed.setIfInBounds k true)) a C) l (listed.setIfInBounds k true) a C →
          wpAnyP P E .any ops C0 n (fun listed' a' C' => Region.seqB .any ops g n listed' = true ∧ Lq a' C') (l.length + f) (listed.setIfInBounds k true) a C := fun a C hK =>
        wpAnyP_frees hsel hs hc hn l _ a C (inv.set hr' hkn) hB' hK
      have step : ∀ v, YieldsB P ops C0 o v a → wpHeadP P E .any ops C0 (fun a C => HeadInv .any ops n (setAll l (listed.setIfInBounds k true)) → wpAnyP P E .any ops C0 n (fun listed' a' C' => Region.seqB .any ops g n listed' = true ∧ Lq a' C') f (setAll l (listed.setIfInBounds k true)) a C) l (listed.setIfInBounds k true) (a.put o.dst v) C →
          wpAnyP P E .any ops C0 n (fun listed' a' C' => Region.seqB .any ops g n listed' = true ∧ Lq a' C') (l.length + f + 1) listed a C := fun v hy hK =>
        wpAnyP_first h0 (Region.noSelect_spec hsel) hs hc hn hkn (fun listed' a' C' hL => seqB_ready hL.1) (l.length + f) listed a C inv (Region.free_spec h0 hf) hr' hy (ih _ _ hK)
      unfold headP at h
      by_cases hw : Region.wanted o (yielded ops a.tmps) = true
      · rw [if_pos hw] at h
        rcases h with ⟨v, h1, h2⟩ | ⟨hsole, hm⟩
        · exact step v (.inl ⟨hw, h1⟩) h2
        · refine ⟨fun h => (by rw [h] at hr'; cases hr'), fun j hj => ?_⟩
          have hjk : j = k := Nat.eq_of_beq_eq_true (List.all_eq_true.1 hsole j hj)
          subst hjk
          refine ⟨hkn, ?_⟩
          unfold pOp
          simp only [h0, hw, if_true]
          obtain ⟨X, V, M, m1, m2, m3, m4⟩ := hm
          exact .inr ⟨X, V, M, m1, m2, m3, fun x => ih _ _ (m4 x)⟩
      · rw [if_neg hw] at h
        exact step undef (.inr ⟨by simpa using hw, rfl⟩) h
/-- what a region must be for this: first n, of which l0 come first and S are left -/
def parB (ops : Array Oper) (n : Nat) (l0 S : List Nat) : Bool :=
  Region.noSelect ops && Nat.blt n ops.size && Region.sinkB .any ops n && Region.chainB .any ops n && freesB ops n l0 (Array.replicate ops.size false) &&
  S.all (Nat.blt · n) && l0.all (Nat.blt · n) && (List.range n).all (fun j => l0.contains j || S.contains j) && (List.range ops.size).all (fun j => (setAll l0 (Array.replicate ops.size false)).getD j false == l0.contains j) &&
  Nat.beq (l0.length + S.length) n && Region.seqB .any ops (ops.size - n) n (fullA ops n)
/-- what is known where the first ones are done -/
def LPar (P : Program) (K : Cx) (ops : Array Oper) (m0 : List HP) (n : Nat) (l0 S : List Nat) (Lq : Act → Cl → Prop) : Act → Cl → Prop := fun a C =>
  HeadInv .any ops n (setAll l0 (Array.replicate ops.size false)) → wpAnyP P (fun _ _ => False) .any ops (Holds K.w0 K.F m0) n (fun listed' a' C' => Region.seqB .any ops (ops.size - n) n listed' = true ∧ Lq a' C') S.length (setAll l0 (Array.replicate ops.size false)) a C
theorem CW_par (n : Nat) (l0 S : List Nat) (m0 : List HP) {pm : List HP} {m : List HP} {ρ : Env} {Q : Exit → Act → World → Prop} (he : Ent m (pm ++ m0)) {id : Nat} {l : List Oper} (hM : P.follows .mixedOrders = true) (hB : parB l.toArray n l0 S = true)
    (h : WP P K (fun _ _ => False) l.toArray (LPar P K l.toArray m0 n l0 S (LT P l.toArray Q (l.drop n))) m0 l0 (Array.replicate l.length false) ρ m) : CW P K Q (.region id l.toArray true) ρ m := ⟨fun a w hf hm => by
  simp only [parB, Bool.and_eq_true] at hB
  obtain ⟨⟨⟨⟨⟨⟨⟨⟨⟨⟨hsel, hn⟩, hs⟩, hc⟩, hfr⟩, _⟩, _⟩, _⟩, _⟩, hlen⟩, _⟩ := hB
  have hn : n < l.toArray.size := blt_lt hn
  have hlen := Nat.eq_of_beq_eq_true hlen
  have hsz : l.toArray.size = l.length := by simp
  have hdl : (l.drop n).length = l.toArray.size - n := by simp
  have inv0 : HeadInv .any l.toArray n (Array.replicate l.toArray.size false) :=
    ⟨by simp, fun j oj _ hl => (by rw [getD_replicate_false] at hl; cases hl), fun t _ ht => getD_in (by simpa using ht) (getD_replicate_false _ _)⟩
  have H := wpAnyP_frees (g := l.toArray.size - n) hsel hs hc hn l0 _ a (Holds K.w0 K.F m) inv0 hfr (by rw [hsz]; have := h.run a hf; unfold LPar at this; rw [hsz] at this; exact this)
  refine wp_region_any hM ?_
  have := wpAny_of_P (Q' := Q) (A := fun _ => True) (g := l.toArray.size - n) (fun _ _ _ _ _ _ => trivial) (fun _ _ _ _ h => h.elim) (fun listed a' w' C' hw' hL => by
    have := wpAny_of_seq (md := .any) (Q' := Q) (l.drop n) n listed a' w' (fun j => by simp [List.getElem?_drop]) (by rw [hdl]; exact hL.1) (hL.2 w' hw')
    rwa [hdl] at this) _ _ _ _ (Holds K.w0 K.F m) trivial (Holds.closed _ _ _) (fun _ hW => (hW.ent he).drop) hm.drew H
  rw [hsz] at this hn
  rw [hlen, show n + (l.length - n) = l.length by omega] at this
  rw [hsz]
  exact this⟩
theorem pOp_weak {E : List PanicEntry → World → Prop} {C0 C C' : Cl} {i : Nat} {a : Act} {K1 K2 : Act → Cl → Prop} (hC : ∀ W, C W → C' W) (h1 : ∀ a', K1 a' C' → K2 a' C) (h2 : ∀ a' D, K1 a' D → K2 a' D) (h : pOp P E ops C0 C' i K1 a) : pOp P E ops C0 C i K2 a := by
  unfold pOp at *
  split
  · rename_i ho; simp only [ho] at h; exact h1 _ h
  · rename_i o ho
    simp only [ho] at h
    split
    · rename_i hw
      simp only [hw, if_true] at h
      rcases h with ⟨v, hv, hk⟩ | ⟨X, V, M, m1, m2, m3, m4⟩
      · exact .inl ⟨v, hv, h1 _ hk⟩
      · exact .inr ⟨X, V, M, m1, m2, fun W hW => m3 W (hC W hW), fun x => h2 _ _ (m4 x)⟩
    · rename_i hw; simp only [hw] at h; exact h1 _ h
theorem wpAnyP_weak {E : List PanicEntry → World → Prop} {C0 : Cl} {n : Nat} {L : Array Bool → Act → Cl → Prop} (hL : ∀ l a C C', (∀ W, C W → C' W) → L l a C' → L l a C) : ∀ (f : Nat) (listed : Array Bool) (a : Act) (C C' : Cl), (∀ W, C W → C' W) → wpAnyP P E .any ops C0 n L f listed a C' → wpAnyP P E .any ops C0 n L f listed a C
  | 0, _, _, _, _, hC, h => hL _ _ _ _ hC h
  | f + 1, _, _, C, C', hC, h => ⟨h.1, fun i hi => ⟨(h.2 i hi).1, pOp_weak hC (fun a' k => wpAnyP_weak hL f _ a' C C' hC k) (fun _ _ k => k) (h.2 i hi).2⟩⟩
theorem WP_par {n : Nat} {l0 S : List Nat} {m m1 : List HP} {ρ : Env} {Q : Exit → Act → World → Prop} {tl : List Oper} {listed : Array Bool} (post : Env → List HP → Prop) (e : Ent m (m1 ++ m0)) (hB : parB ops n l0 S = true) (hp : ∀ ρ m, post ρ m → WL P K ops Q tl ρ (m ++ m0))
    (h : Pr P K ops m0 post S.length S l0 ρ m1) : WP P K (fun _ _ => False) ops (LPar P K ops m0 n l0 S (LT P ops Q tl)) m0 [] listed ρ m := ⟨fun a hf inv => by
  simp only [parB, Bool.and_eq_true] at hB
  obtain ⟨⟨⟨⟨⟨⟨⟨⟨⟨⟨hsel, hn⟩, hs⟩, hc⟩, hfr⟩, hSn⟩, hl0⟩, hcov⟩, hgd⟩, hlen⟩, hseq⟩ := hB
  have hn : n < ops.size := blt_lt hn
  have := wpAnyP_of_Pr (P := P) (K := K) (m0 := m0) (Lq := LT P ops Q tl) (post := post) hs hc hn (fun j hj => blt_lt (List.all_eq_true.1 hSn j hj)) hseq (fun ρ m a hpo hf w hw => (hp ρ m hpo).run a w hf hw) S.length l0 ρ m1 _ a hf inv (fun j => ?_) (fun j hj => ?_) h
  · exact wpAnyP_weak (fun l a C C' hC k => ⟨k.1, fun w hw => k.2 w (hC w hw)⟩) _ _ _ _ _ (fun W hW => hW.ent e) this
  · by_cases hj : j < ops.size
    · exact eq_of_beq (List.all_eq_true.1 hgd j (List.mem_range.2 hj))
    · have h1 : l0.contains j = false := by
        cases hc : l0.contains j with
        | false => rfl
        | true => have := blt_lt (List.all_eq_true.1 hl0 j (by simpa using hc)); omega
      rw [h1]
      have h2 : ¬ j < (setAll l0 (Array.replicate ops.size false)).size := by rw [inv.size]; exact hj
      simp [h2]
  · have := List.all_eq_true.1 hcov j (List.mem_range.2 hj)
    simp only [Bool.or_eq_true] at this
    exact this.imp id fun h => by simpa using h⟩
end
/-! ## appends, whatever the new cells are read from -/
section
variable {P : Program} {K : Cx} {ops : Array Oper} {m0 : List HP} {ρ : Env} {m r : List HP} {t ty e : TypeId} {pos : String} {aft : Array Edge} {g : Option (Nat × Bool)} {x y : Operand} {Q : Exit → Act → World → Prop} {rest : List Oper} {d i n c n' c' sz bytes : Nat} {zs xs news : List Value} {p : Option Addr} {q : Addr} {next : Env → List HP → Prop} {G : Rd}
/-! ## things of which the call itself made the blocks -/
theorem WL_cov {P : Program} {K : Cx} {ops : Array Oper} {Q : Exit → Act → World → Prop} {l : List Oper} {ρ ρ' : Env} {mm : List HP} (h : Cov ρ ρ') (k : WL P K ops Q l ρ' mm) : WL P K ops Q l ρ mm := ⟨fun a w hf hm => k.run a w (hf.cov h) hm⟩
/-! ## steps of a part -/
theorem Pick.app {l : List HP} {h : HP} (hp : Pick m h r) : Pick (m ++ l) h (r ++ l) := by
  induction hp with
  | here => exact .here
  | there _ ih => exact .there ih
end
end Go.Proofs.YtllgkdkjcbohcaaGreatDoor
namespace Go.Proofs.YtllgkdkjcbohcaaGreatDoor
open Go.RowKit
/-- all that there is may be read -/
theorem Holds.whole {w0 W : World} {m : List HP} (hh : Holds w0 [] m W) : Holds w0 [] [ro w0 [] W.cell?] W := by
  have hb := hh.below
  refine ⟨hh.keep, (List.range (W.heap.size - w0.heap.size)).map (w0.heap.size + ·) ++ [], ⟨_, [], rfl, ⟨fun i hi => ?_, fun a v e => ?_⟩, rfl, by simp⟩, fun i hi h0 => ?_⟩
  · obtain ⟨j, hj, rfl⟩ := List.mem_map.1 hi
    rw [List.mem_range] at hj; omega
  · have hl := cell_lt e
    by_cases h : a.block < w0.heap.size
    · exact .inr ⟨h, by simp, by rw [← World.cell?_of_block (hb.block _ h)]; exact e⟩
    · exact .inl ⟨List.mem_map.2 ⟨a.block - w0.heap.size, List.mem_range.2 (by omega), by omega⟩, e⟩
  · rw [List.append_nil] at hi
    obtain ⟨j, hj, rfl⟩ := List.mem_map.1 hi
    omega
/-- a block as a slice of the call's own, whatever size an element has -/
theorem Ent.blkSlN {m r m' : List HP} {b n sz : Nat} {e : TypeId} {cs : Array Value} {xs : List Value} (hp : Pick m (blk b e cs) r) (hc : cs = xs.toArray) (hn : xs.length = n * sz) (hm : n ≤ 1099511627776) (kk : Ent r m') : Ent m (sl e sz (some ⟨b, 0, none⟩) n n xs :: m') := fun fp w ho => by
  obtain ⟨f1, f2, he, ⟨rfl, hb⟩, k2, kd⟩ := hp.own ho
  obtain ⟨f3, h3, hs⟩ := kk f2 w k2
  subst hc
  refine ⟨[b] ++ f3, ⟨[b], f3, rfl, ⟨rfl, by rw [hn], .inr ⟨b, n, _, rfl, Nat.zero_le _, hb, Nat.le_refl _, by unfold maxLen; omega, by simp [hn], by rw [← hn]; simp⟩⟩, h3, fun i hi h => kd i hi (hs i h)⟩, fun i hi => ?_⟩
  rcases List.mem_append.1 hi with hi | hi
  · exact (he i).2 (.inl hi)
  · exact (he i).2 (.inr (hs i hi))
end Go.Proofs.YtllgkdkjcbohcaaGreatDoor
