/-
  What words a tree is printed as, and that they parse to it. Of no program.
  How many words a tree is printed as; which first words are glyphs. Of no program.
-/
import Derived.Test.YtngeooflfkpikaaGreatDoorZParseGood
import Derived.Test.YtngeooflfkpikaaGreatDoorZTreeEx
import Derived.Test.YtngeooflfkpikaaGreatDoorZRule
namespace Go.Proofs.YtngeooflfkpikaaGreatDoor
def tokK (k : Int) : Tok := ⟨k, 0, 0, [], 0⟩
def tokG (f : Int) : Tok := ⟨4, f, 0, [], 0⟩
/-- is it no term? -/
def Ex.comp : Ex → Bool
  | .one .. => true
  | .two .. => true
  | _ => false
/-- would the right part be taken for what belongs to the function? -/
def catchE (n : Nod) : Ex → Bool
  | .one m _ _ => decide (n.aop = 0 ∧ m.aop ≠ 3 ∧ (m.af = 33 ∨ m.af = 34))
  | _ => false
def closeT (must : Bool) (l : List Tok) : List Tok := if must = true then tokK 5 :: (l ++ [tokK 6]) else l
def funT (n : Nod) (body : List Tok) : List Tok :=
  if n.aop = 3 then [tokK 11, tokK 12, tokG n.af] else if n.aop = 7 then [tokK 20] else if n.aop = 6 then tokK 14 :: (body ++ [tokK 15])
  else tokG n.af :: (if n.aop = 1 then [tokG 33] else if n.aop = 2 then [tokG 34] else if n.aop = 5 then [tokK 13] else if n.aop = 4 then [tokK 12, tokG n.ag] else [])
mutual
def Ex.toks : Ex → List Tok
  | .leaf n => if n.op = 1 then n.nums.map fun x => ⟨1, 0, x, [], 0⟩ else if n.op = 2 then [⟨2, 0, 0, n.text, 0⟩] else if n.op = 3 then [⟨3, 0, 0, n.text, 0⟩] else if n.op = 4 then [tokK 18] else [tokK 19]
  | .one n b r => funT n (b.bodyT false) ++ closeT (catchE n r) r.toks
  | .two n l b r => closeT l.comp l.toks ++ (funT n (b.bodyT false) ++ closeT (catchE n r) r.toks)
  | .pick _ o b => closeT o.comp o.toks ++ (tokK 7 :: (b.semiT ++ [tokK 8]))
def Exs.semiT : Exs → List Tok
  | .nil => []
  | .cons e r => e.toks ++ ((if r.len = 0 then [] else [tokK 9]) ++ r.semiT)
def Exs.bodyT : Bool → Exs → List Tok
  | _, .nil => []
  | p, .cons e r => e.toks ++ ((if r.len = 0 then [] else if p = true then [tokK 17] else [tokK 16]) ++ r.bodyT (!p))
end
/-- behind an expression -/
def Calm (w : Nat) (r : List Tok) : Prop := startsT w r = false ∧ kindT r ≠ 1 ∧ kindT r ≠ 7
def RtE (w : Nat) (e : Ex) : Prop := ∀ r, Calm w r → exP w (e.toks ++ r) = .ok (e, r)
def RtT (w : Nat) (e : Ex) : Prop := ∀ r, kindT r ≠ 1 → tmP w (closeT e.comp e.toks ++ r) = pkP w e r
theorem calm_k {w : Nat} {k : Int} {l : List Tok} (h : k ≠ 1 ∧ k ≠ 4 ∧ k ≠ 7 ∧ k ≠ 11 ∧ k ≠ 14 ∧ k ≠ 20) : Calm w (tokK k :: l) := by
  obtain ⟨h1, h2, h3, h4, h5, h6⟩ := h
  refine ⟨?_, h1, h3⟩
  simp [startsT, kindT, tokK, h2, h4, h5, h6]
theorem needT_k (k : Int) (l : List Tok) : needT k (tokK k :: l) = .ok (tokK k, l) := by simp [needT, tokK]
theorem needT_g (f : Int) (l : List Tok) : needT 4 (tokG f :: l) = .ok (tokG f, l) := by simp [needT, tokG]
theorem bind_okk {ε α β : Type} (x : α) (g : α → Except ε β) : (Except.ok x : Except ε α).bind g = g x := rfl
/-- brackets -/
theorem rt_left {w : Nat} {e : Ex} (h : RtE w e) (r : List Tok) : tmP w (tokK 5 :: (e.toks ++ [tokK 6]) ++ r) = pkP w e r := by
  unfold tmP
  rw [atP_eq, List.cons_append, List.append_assoc, List.singleton_append]
  rw [if_neg (by simp [kindT, tokK]), if_neg (by simp [kindT, tokK]), if_neg (by simp [kindT, tokK]), if_neg (by simp [kindT, tokK]), needT_k, bind_okk]
  dsimp only
  rw [h _ (calm_k (by decide)), bind_okk]
  dsimp only
  rw [needT_k]
  rfl
theorem pk_calm {w : Nat} {e : Ex} {r : List Tok} (h : kindT r ≠ 7) : pkP w e r = .ok (e, r) := by rw [pkP_eq, if_neg h]
/-- the right part, in brackets or not -/
theorem rt_close {w : Nat} {e : Ex} (h : RtE w e) (must : Bool) (r : List Tok) (hr : Calm w r) : exP w (closeT must e.toks ++ r) = .ok (e, r) := by
  cases must with
  | false => exact h r hr
  | true =>
    show exP w (tokK 5 :: (e.toks ++ [tokK 6]) ++ r) = _
    rw [exP_eq, if_neg (by simp [startsT, kindT, tokK]), rt_left h, pk_calm hr.2.2, bind_okk]
    dsimp only
    rw [if_neg (by rw [hr.1]; decide)]
theorem right_leaf {n : Nod} (h : rightN n = true) (ho : n.op ≠ 6 ∧ n.op ≠ 7 ∧ n.op ≠ 8) : n.n = 0 ∧ n.aop = 0 ∧ n.af = 0 ∧ n.ag = 0 ∧ (n.op = 1 ↔ n.nums ≠ []) ∧ (n.op ≠ 2 → n.op ≠ 3 → n.op ≠ 9 → n.text = []) := by
  obtain ⟨h6, h7, h8⟩ := ho
  unfold rightN at h
  rw [if_neg h8, if_neg (show ¬ (n.op = 6 ∨ n.op = 7) by omega)] at h
  simp only [Bool.and_eq_true, beq_iff_eq, decide_eq_decide, decide_eq_true_eq] at h
  refine ⟨h.2.1, h.2.2.1, h.2.2.2.1, h.2.2.2.2, h.1.1, fun h2 h3 h9 => ?_⟩
  have := h.1.2
  rw [if_neg (show ¬ (n.op = 3 ∨ n.op = 9) by omega), if_neg h2] at this
  simpa using this
theorem right_fun {n : Nod} (h : rightN n = true) (ho : n.op = 6 ∨ n.op = 7) : n.nums = [] ∧ n.text = [] ∧ actOk n.aop n.af n.ag = true ∧ 0 ≤ n.n ∧ (n.n = 0 ∨ n.aop = 6) := by
  unfold rightN at h
  rw [if_neg (show ¬ n.op = 8 by omega), if_pos ho, if_neg (show ¬ (n.op = 3 ∨ n.op = 9) by omega), if_neg (show ¬ n.op = 2 by omega)] at h
  simp only [Bool.and_eq_true, beq_iff_eq, decide_eq_decide, decide_eq_true_eq] at h
  refine ⟨?_, h.1.2, h.2.1, h.2.2.1, h.2.2.2⟩
  have := h.1.1
  have h1 : n.op ≠ 1 := by omega
  simpa [h1] using this
theorem right_pick {n : Nod} (h : rightN n = true) (ho : n.op = 8) : n = ⟨8, 0, 0, 0, n.n, [], []⟩ ∧ 0 < n.n := by
  obtain ⟨op, aop, af, ag, k, nums, text⟩ := n
  dsimp only at ho
  subst ho
  simp [rightN] at h
  obtain ⟨⟨h1, h2⟩, h3, h4, h5, h6⟩ := h
  subst h1 h2 h4 h5 h6
  exact ⟨rfl, h3⟩
def termK (k : Int) : Prop := k = 1 ∨ k = 2 ∨ k = 3 ∨ k = 5 ∨ k = 18 ∨ k = 19
theorem first_leaf {n : Nod} {w : Nat} (h : (Ex.leaf n).ok w) (r : List Tok) : termK (kindT ((Ex.leaf n).toks ++ r)) := by
  obtain ⟨h1, h2⟩ := h
  unfold Ex.toks
  rcases h2 with h2 | h2 | h2 | ⟨h2 | h2, _⟩
  · rw [if_pos h2]
    have := (right_leaf h1 (by omega)).2.2.2.2.1.1 h2
    cases hn : n.nums with
    | nil => exact absurd hn this
    | cons x xs => exact .inl rfl
  · rw [if_neg (by omega), if_pos h2]
    exact .inr (.inl rfl)
  · rw [if_neg (by omega), if_neg (by omega), if_pos h2]
    exact .inr (.inr (.inl rfl))
  · rw [if_neg (by omega), if_neg (by omega), if_neg (by omega), if_pos h2]
    exact .inr (.inr (.inr (.inr (.inl rfl))))
  · rw [if_neg (by omega), if_neg (by omega), if_neg (by omega), if_neg (by omega)]
    exact .inr (.inr (.inr (.inr (.inr rfl))))
theorem first_term {w : Nat} : ∀ (e : Ex), e.ok w → ∀ r, termK (kindT (closeT e.comp e.toks ++ r))
  | .leaf n, h, r => first_leaf h r
  | .one n b r', h, r => .inr (.inr (.inr (.inl rfl)))
  | .two n l b r', h, r => .inr (.inr (.inr (.inl rfl)))
  | .pick n o b, h, r => by
    show termK (kindT ((closeT o.comp o.toks ++ (tokK 7 :: (b.semiT ++ [tokK 8]))) ++ r))
    rw [List.append_assoc]
    unfold Ex.ok at h
    exact first_term o h.2.1 _
theorem termK_starts {w : Nat} {l : List Tok} (h : termK (kindT l)) : startsT w l = false := by
  unfold startsT
  rcases h with h | h | h | h | h | h <;> rw [h] <;> simp
theorem fun_first {n : Nod} (l r : List Tok) : kindT (funT n l ++ r) = 4 ∨ kindT (funT n l ++ r) = 11 ∨ kindT (funT n l ++ r) = 14 ∨ (kindT (funT n l ++ r) = 20 ∧ n.aop = 7) := by
  unfold funT
  split
  · exact .inr (.inl rfl)
  split
  · rename_i h
    exact .inr (.inr (.inr ⟨rfl, h⟩))
  split
  · exact .inr (.inr (.inl rfl))
  · exact .inl rfl
theorem fun_starts {n : Nod} {w : Nat} (hw : n.aop = 7 → 0 < w) (l r : List Tok) : startsT w (funT n l ++ r) = true := by
  unfold startsT
  rcases fun_first (n := n) l r with h | h | h | ⟨h, h7⟩ <;> rw [h] <;> simp
  exact hw h7
theorem fun_kind {n : Nod} (l r : List Tok) : kindT (funT n l ++ r) ≠ 1 ∧ kindT (funT n l ++ r) ≠ 7 := by
  rcases fun_first (n := n) l r with h | h | h | ⟨h, _⟩ <;> rw [h] <;> decide
/-- what stands behind is not taken for what belongs to the function -/
def Free (n : Nod) (r : List Tok) : Prop := n.aop = 0 → kindT r ≠ 12 ∧ kindT r ≠ 13 ∧ ∀ t l, r = t :: l → t.kind = 4 → t.fn ≠ 33 ∧ t.fn ≠ 34
/-- the first word of a function is not taken for what belongs to one ahead of it -/
theorem right_free {w : Nat} {n : Nod} (e : Ex) (h : e.ok w) (r : List Tok) : Free n (closeT (catchE n e) e.toks ++ r) := by
  intro h0
  cases hc : catchE n e with
  | true =>
    refine ⟨by simp [closeT, kindT, tokK], by simp [closeT, kindT, tokK], fun t l ht hk => ?_⟩
    simp only [closeT, if_true, List.cons_append, List.cons.injEq] at ht
    rw [← ht.1] at hk
    simp [tokK] at hk
  | false =>
    show kindT (e.toks ++ r) ≠ 12 ∧ kindT (e.toks ++ r) ≠ 13 ∧ _
    have key : termK (kindT (e.toks ++ r)) → kindT (e.toks ++ r) ≠ 12 ∧ kindT (e.toks ++ r) ≠ 13 ∧ ∀ t l, e.toks ++ r = t :: l → t.kind = 4 → t.fn ≠ 33 ∧ t.fn ≠ 34 := fun hk => by
      refine ⟨?_, ?_, fun t l ht h4 => ?_⟩
      · rcases hk with h | h | h | h | h | h <;> rw [h] <;> decide
      · rcases hk with h | h | h | h | h | h <;> rw [h] <;> decide
      · rw [ht] at hk
        simp only [kindT, h4] at hk
        rcases hk with h | h | h | h | h | h <;> simp at h
    cases e with
    | leaf m => exact key (first_leaf h r)
    | two m l b r' =>
      apply key
      show termK (kindT ((closeT l.comp l.toks ++ _) ++ r))
      rw [List.append_assoc]
      unfold Ex.ok at h
      exact first_term l h.2.1 _
    | pick m o b => exact key (first_term (.pick m o b) h r)
    | one m b r' =>
      unfold Ex.ok at h
      have ha := (right_fun h.1.1 (.inl h.1.2.1)).2.2.1
      have hcc : ¬ (n.aop = 0 ∧ m.aop ≠ 3 ∧ (m.af = 33 ∨ m.af = 34)) := by simpa [catchE] using hc
      show kindT ((funT m (b.bodyT false) ++ _) ++ r) ≠ 12 ∧ kindT ((funT m (b.bodyT false) ++ _) ++ r) ≠ 13 ∧ ∀ t l, (funT m (b.bodyT false) ++ _) ++ r = t :: l → _
      rw [List.append_assoc]
      refine ⟨?_, ?_, fun t l ht h4 => ?_⟩
      · rcases fun_first (n := m) (b.bodyT false) (closeT (catchE m r') r'.toks ++ r) with h | h | h | ⟨h, _⟩ <;> rw [h] <;> decide
      · rcases fun_first (n := m) (b.bodyT false) (closeT (catchE m r') r'.toks ++ r) with h | h | h | ⟨h, _⟩ <;> rw [h] <;> decide
      · unfold funT at ht
        split at ht
        · simp only [List.cons_append, List.cons.injEq] at ht
          rw [← ht.1] at h4
          simp [tokK] at h4
        split at ht
        · simp only [List.cons_append, List.cons.injEq] at ht
          rw [← ht.1] at h4
          simp [tokK] at h4
        split at ht
        · simp only [List.cons_append, List.cons.injEq] at ht
          rw [← ht.1] at h4
          simp [tokK] at h4
        · simp only [List.cons_append, List.cons.injEq] at ht
          rw [← ht.1]
          show m.af ≠ 33 ∧ m.af ≠ 34
          omega
theorem Exs.of_list'' : ∀ b : Exs, Exs.of b.list = b
  | .nil => rfl
  | .cons e r => by simp [Exs.list, Exs.of, Exs.of_list'' r]
theorem act_cases {a f g : Int} (h : actOk a f g = true) : (a = 0 ∧ g = 0) ∨ (a = 1 ∧ g = 0) ∨ (a = 2 ∧ g = 0) ∨ (a = 3 ∧ g = 0) ∨ (a = 5 ∧ g = 0) ∨ a = 4 ∨ (a = 6 ∧ f = 0 ∧ g = 0) ∨ (a = 7 ∧ f = 0 ∧ g = 0) := by
  unfold actOk at h
  split at h
  · have := of_decide_eq_true h; omega
  split at h
  · omega
  split at h
  · have := of_decide_eq_true h; omega
  · simp at h
/-- indices -/
theorem rt_semi {w : Nat} : ∀ (b : Exs) (acc : List Ex) (r : List Tok), (∀ e ∈ b.list, RtE w e) → kindT r ≠ 9 → Calm w r → 0 < b.len → smP w acc (tokK 9 :: (b.semiT ++ r)) = .ok (acc ++ b.list, r)
  | .nil, _, _, _, _, _, h => absurd h (by simp [Exs.len])
  | .cons e .nil, acc, r, h, h9, hr, _ => by
    rw [smP_eq, if_pos (by rfl)]
    simp only [List.tail_cons, Exs.semiT, Exs.len, if_true, List.append_nil]
    rw [h e (by simp [Exs.list]) r hr, bind_okk]
    dsimp only
    rw [smP_eq, if_neg h9]
    simp [Exs.list]
  | .cons e (.cons e2 b2), acc, r, h, h9, hr, _ => by
    rw [smP_eq, if_pos (by rfl)]
    have hs : (Exs.cons e (.cons e2 b2)).semiT ++ r = e.toks ++ (tokK 9 :: ((Exs.cons e2 b2).semiT ++ r)) := by
      rw [Exs.semiT, if_neg (by simp [Exs.len])]
      simp
    rw [List.tail_cons, hs, h e (by simp [Exs.list]) _ (calm_k (by decide)), bind_okk]
    dsimp only
    rw [rt_semi (.cons e2 b2) (acc ++ [e]) r (fun x hx => h x (by rw [Exs.list]; exact List.mem_cons_of_mem _ hx)) h9 hr (by simp [Exs.len])]
    simp [Exs.list]
/-- what is written out -/
theorem rt_body {w : Nat} : ∀ (k n : Nat) (b : Exs) (acc : List Ex) (r : List Tok), b.len = 2 * k + 1 → (∀ e ∈ b.list, RtE w e) → kindT r ≠ 16 → Calm w r → bdP w n acc (b.bodyT false ++ r) = .ok ((n + k, acc ++ b.list), r)
  | 0, n, b, acc, r, hl, h, h16, hr => by
    match b, hl, h with
    | .cons e .nil, _, h =>
      rw [bdP_eq]
      simp only [Exs.bodyT, Exs.len, if_true, List.append_nil]
      rw [h e (by simp [Exs.list]) r hr, bind_okk]
      dsimp only
      rw [if_neg h16]
      simp [Exs.list]
    | .cons e (.cons e2 b2), hl, _ => simp [Exs.len] at hl
    | .nil, hl, _ => simp [Exs.len] at hl
  | k + 1, n, b, acc, r, hl, h, h16, hr => by
    match b, hl, h with
    | .cons e (.cons e2 b2), hl, h =>
      have hb : b2.len = 2 * k + 1 := by simp [Exs.len] at hl; omega
      have hs : (Exs.cons e (.cons e2 b2)).bodyT false ++ r = e.toks ++ (tokK 16 :: (e2.toks ++ (tokK 17 :: (b2.bodyT false ++ r)))) := by
        rw [Exs.bodyT, if_neg (by simp [Exs.len]), if_neg (by decide), Exs.bodyT, if_neg (by omega)]
        simp
      rw [bdP_eq, hs, h e (by simp [Exs.list]) _ (calm_k (by decide)), bind_okk]
      dsimp only
      rw [if_pos (by rfl), List.tail_cons, h e2 (by simp [Exs.list]) _ (calm_k (by decide)), bind_okk]
      dsimp only
      rw [needT_k, bind_okk]
      dsimp only
      rw [rt_body k (n + 1) b2 (acc ++ [e, e2]) r hb (fun x hx => h x (by rw [Exs.list, Exs.list]; exact List.mem_cons_of_mem _ (List.mem_cons_of_mem _ hx))) h16 hr]
      simp [Exs.list]
      omega
    | .cons e .nil, hl, _ => simp [Exs.len] at hl
    | .nil, hl, _ => simp [Exs.len] at hl
theorem list_nil {b : Exs} (h : b.len = 0) : b = .nil := by
  cases b with
  | nil => rfl
  | cons e r => simp [Exs.len] at h
/-- a function -/
theorem rt_fun {w : Nat} {n : Nod} {b : Exs} (h : rightN n = true) (ho : n.op = 6 ∨ n.op = 7) (hl : b.len = (if n.aop = 6 then 2 * n.n.toNat + 1 else 0)) (hb : ∀ e ∈ b.list, RtE (w + 1) e) (r : List Tok) (hr : Free n r) :
    ∃ g : FunE, fnP w (funT n (b.bodyT false) ++ r) = .ok (g, r) ∧ g.node n.op = n ∧ Exs.of g.body = b := by
  obtain ⟨h1, h2, h3, h4, h5⟩ := right_fun h ho
  obtain ⟨op, aop, af, ag, k, nums, text⟩ := n
  dsimp only at h1 h2 h3 h4 h5 hl ho
  subst h1 h2
  dsimp only
  rcases act_cases h3 with ⟨rfl, rfl⟩ | ⟨rfl, rfl⟩ | ⟨rfl, rfl⟩ | ⟨rfl, rfl⟩ | ⟨rfl, rfl⟩ | rfl | ⟨rfl, rfl, rfl⟩ | ⟨rfl, rfl, rfl⟩
  · obtain rfl := list_nil (by simpa using hl)
    obtain rfl : k = 0 := by omega
    obtain ⟨f1, f2, f3⟩ := hr rfl
    refine ⟨{ aop := 0, af := af }, ?_, rfl, rfl⟩
    rw [show funT ⟨op, 0, af, 0, 0, [], []⟩ (Exs.bodyT false Exs.nil) = [tokG af] by simp [funT], List.singleton_append, fnP_eq, if_neg (by simp [kindT, tokG]), if_neg (by simp [kindT, tokG]), if_neg (by simp [kindT, tokG]), needT_g, bind_okk]
    dsimp only
    rw [if_neg f2, if_neg f1]
    split
    · cases r with
      | nil => rfl
      | cons t l =>
        rename_i h4
        obtain ⟨g1, g2⟩ := f3 t l rfl h4
        simp only
        rw [if_neg g1, if_neg g2]
        rfl
    · rfl
  · obtain rfl := list_nil (by simpa using hl)
    obtain rfl : k = 0 := by omega
    exact ⟨{ aop := 1, af := af }, by rw [fnP_eq]; simp [funT, kindT, tokG, needT, Except.bind], rfl, rfl⟩
  · obtain rfl := list_nil (by simpa using hl)
    obtain rfl : k = 0 := by omega
    exact ⟨{ aop := 2, af := af }, by rw [fnP_eq]; simp [funT, kindT, tokG, needT, Except.bind], rfl, rfl⟩
  · obtain rfl := list_nil (by simpa using hl)
    obtain rfl : k = 0 := by omega
    exact ⟨{ aop := 3, af := af }, by rw [fnP_eq]; simp [funT, kindT, tokG, tokK, needT, Except.bind], rfl, rfl⟩
  · obtain rfl := list_nil (by simpa using hl)
    obtain rfl : k = 0 := by omega
    exact ⟨{ aop := 5, af := af }, by rw [fnP_eq]; simp [funT, kindT, tokG, tokK, needT, Except.bind], rfl, rfl⟩
  · obtain rfl := list_nil (by simpa using hl)
    obtain rfl : k = 0 := by omega
    exact ⟨{ aop := 4, af := af, ag := ag }, by rw [fnP_eq]; simp [funT, kindT, tokG, tokK, needT, Except.bind], rfl, rfl⟩
  · rw [if_pos rfl] at hl
    refine ⟨{ aop := 6, n := k.toNat, body := b.list }, ?_, ?_, Exs.of_list'' b⟩
    · rw [show funT ⟨op, 6, 0, 0, k, [], []⟩ (b.bodyT false) = tokK 14 :: (b.bodyT false ++ [tokK 15]) by simp [funT], List.cons_append, fnP_eq, if_neg (by simp [kindT, tokK]), if_neg (by simp [kindT, tokK]), if_pos (by rfl), List.tail_cons, List.append_assoc, List.singleton_append,
        rt_body k.toNat 0 b [] (tokK 15 :: r) hl hb (by simp [kindT, tokK]) (calm_k (by decide)), bind_okk]
      dsimp only
      rw [needT_k, bind_okk]
      simp
    · unfold FunE.node
      dsimp only
      rw [Int.toNat_of_nonneg h4]
  · obtain rfl := list_nil (by simpa using hl)
    obtain rfl : k = 0 := by omega
    exact ⟨{ aop := 7 }, by rw [fnP_eq]; simp [funT, kindT, tokK], rfl, rfl⟩
theorem rt_term {w : Nat} {e : Ex} (h : e.ok w) (hc : e.comp = false) (k : RtT w e) : RtE w e := fun r hr => by
  have h1 := k r hr.2.1
  have h2 := first_term e h r
  rw [hc] at h1 h2
  change tmP w (e.toks ++ r) = _ at h1
  change termK (kindT (e.toks ++ r)) at h2
  rw [exP_eq, termK_starts h2, if_neg (by decide), h1, pk_calm hr.2.2, bind_okk]
  dsimp only
  rw [hr.1, if_neg (by decide)]
theorem tw_nums (xs : List Int) {r : List Tok} (h : kindT r ≠ 1) : ((xs.map fun x => (⟨1, 0, x, [], 0⟩ : Tok)) ++ r).takeWhile isNumK = (xs.map fun x => (⟨1, 0, x, [], 0⟩ : Tok)) ∧ ((xs.map fun x => (⟨1, 0, x, [], 0⟩ : Tok)) ++ r).dropWhile isNumK = r := by
  induction xs with
  | nil =>
    cases r with
    | nil => exact ⟨rfl, rfl⟩
    | cons t l =>
      have : isNumK t = false := decide_eq_false h
      simp [this]
  | cons x xs ih =>
    simp only [List.map_cons, List.cons_append]
    rw [List.takeWhile_cons_of_pos (by rfl), List.dropWhile_cons_of_pos (by rfl), ih.1, ih.2]
    exact ⟨rfl, rfl⟩
theorem rt_leaf {w : Nat} {n : Nod} (h : (Ex.leaf n).ok w) : RtT w (.leaf n) := fun r hr => by
  show tmP w ((Ex.leaf n).toks ++ r) = _
  obtain ⟨h1, h2⟩ := h
  obtain ⟨a1, a2, a3, a4, a5, a6⟩ := right_leaf h1 (by omega)
  obtain ⟨op, aop, af, ag, k, nums, text⟩ := n
  dsimp only at a1 a2 a3 a4 a5 a6 h2
  subst a1 a2 a3 a4
  unfold tmP Ex.toks
  rcases h2 with rfl | rfl | rfl | ⟨rfl | rfl, hw⟩
  · obtain rfl := a6 (by decide) (by decide) (by decide)
    have hne := a5.1 rfl
    rw [if_pos rfl]
    dsimp only
    obtain ⟨t1, t2⟩ := tw_nums nums hr
    rw [atP_eq, if_pos (by
      cases nums with
      | nil => exact absurd rfl hne
      | cons x xs => rfl), bind_okk, t1, t2]
    simp [Function.comp_def]
  · obtain rfl : nums = [] := by simpa using a5
    rw [if_neg (by simp), if_pos rfl, List.singleton_append, atP_eq, if_neg (by simp [kindT]), if_pos (by rfl)]
    rfl
  · obtain rfl : nums = [] := by simpa using a5
    rw [if_neg (by simp), if_neg (by simp), if_pos rfl, List.singleton_append, atP_eq, if_neg (by simp [kindT]), if_neg (by simp [kindT]), if_pos (by rfl)]
    rfl
  · obtain rfl : nums = [] := by simpa using a5
    obtain rfl := a6 (by decide) (by decide) (by decide)
    rw [if_neg (by simp), if_neg (by simp), if_neg (by simp), if_pos rfl, List.singleton_append, atP_eq, if_neg (by simp [kindT, tokK]), if_neg (by simp [kindT, tokK]), if_neg (by simp [kindT, tokK]), if_pos (.inl rfl), if_neg (by omega)]
    rfl
  · obtain rfl : nums = [] := by simpa using a5
    obtain rfl := a6 (by decide) (by decide) (by decide)
    rw [if_neg (by simp), if_neg (by simp), if_neg (by simp), if_neg (by simp), List.singleton_append, atP_eq, if_neg (by simp [kindT, tokK]), if_neg (by simp [kindT, tokK]), if_neg (by simp [kindT, tokK]), if_pos (.inr rfl), if_neg (by omega)]
    rfl
theorem rt_pick {w : Nat} {n : Nod} {o : Ex} {b : Exs} (h : (Ex.pick n o b).ok w) (ho : RtT w o) (hb : ∀ e ∈ b.list, RtE w e) : RtT w (.pick n o b) := fun r hr => by
  show tmP w ((closeT o.comp o.toks ++ (tokK 7 :: (b.semiT ++ [tokK 8]))) ++ r) = _
  unfold Ex.ok at h
  obtain ⟨⟨h1, h2, h3⟩, h4, h5⟩ := h
  obtain ⟨hn, hpos⟩ := right_pick h1 h2
  rw [List.append_assoc, ho _ (by simp [kindT, tokK]), pkP_eq, List.cons_append, if_pos (by rfl), List.tail_cons, List.append_assoc, List.singleton_append]
  match b, hb, h3, h5 with
  | .nil, _, h3, _ => simp [Exs.len] at h3; omega
  | .cons e .nil, hb, h3, _ =>
    rw [show (Exs.cons e .nil).semiT = e.toks by simp [Exs.semiT, Exs.len], hb e (by simp [Exs.list]) _ (calm_k (by decide)), bind_okk]
    dsimp only
    rw [smP_eq, if_neg (by simp [kindT, tokK]), bind_okk]
    dsimp only
    rw [needT_k, bind_okk]
    dsimp only
    rw [hn]
    have : n.n = 1 := by simp [Exs.len] at h3; omega
    rw [this]
    rfl
  | .cons e (.cons e2 b2), hb, h3, _ =>
    have hs : ∀ r, (Exs.cons e (.cons e2 b2)).semiT ++ r = e.toks ++ (tokK 9 :: ((Exs.cons e2 b2).semiT ++ r)) := fun r => by
      rw [Exs.semiT, if_neg (by simp [Exs.len])]
      simp
    rw [hs, hb e (by simp [Exs.list]) _ (calm_k (by decide)), bind_okk]
    dsimp only
    rw [rt_semi (.cons e2 b2) [e] _ (fun x hx => hb x (by rw [Exs.list]; exact List.mem_cons_of_mem _ hx)) (by simp [kindT, tokK]) (calm_k (by decide)) (by simp [Exs.len]), bind_okk]
    dsimp only
    rw [needT_k, bind_okk]
    dsimp only
    have hll : [e] ++ (Exs.cons e2 b2).list = (Exs.cons e (.cons e2 b2)).list := rfl
    rw [hll, Exs.of_list'', hn]
    have : (((Exs.cons e (.cons e2 b2)).list.length : Nat) : Int) = n.n := by
      have hlen : ∀ b : Exs, b.list.length = b.len := fun b => by
        have := Exs.of_len b.list
        rw [Exs.of_list''] at this
        exact this.symm
      rw [hlen, h3]
      omega
    rw [this]
theorem rt_one {w : Nat} {n : Nod} {b : Exs} {e : Ex} (h : (Ex.one n b e).ok w) (hb : ∀ e ∈ b.list, RtE (w + 1) e) (he : RtE w e) : RtE w (.one n b e) := fun r hr => by
  show exP w ((funT n (b.bodyT false) ++ closeT (catchE n e) e.toks) ++ r) = _
  unfold Ex.ok at h
  obtain ⟨⟨h1, h2, h3, h4⟩, h5, h6⟩ := h
  obtain ⟨g, g1, g2, g3⟩ := rt_fun h1 (.inl h2) h3 hb (closeT (catchE n e) e.toks ++ r) (right_free e h6 r)
  rw [List.append_assoc, exP_eq, if_pos (fun_starts h4 _ _), g1, bind_okk]
  dsimp only
  rw [rt_close he _ r hr, bind_okk]
  rw [h2] at g2
  rw [g2, g3]
theorem rt_two {w : Nat} {n : Nod} {b : Exs} {l e : Ex} (h : (Ex.two n l b e).ok w) (hl : RtT w l) (hb : ∀ e ∈ b.list, RtE (w + 1) e) (he : RtE w e) : RtE w (.two n l b e) := fun r hr => by
  show exP w ((closeT l.comp l.toks ++ (funT n (b.bodyT false) ++ closeT (catchE n e) e.toks)) ++ r) = _
  unfold Ex.ok at h
  obtain ⟨⟨h1, h2, h3, h4⟩, h0, h5, h6⟩ := h
  obtain ⟨g, g1, g2, g3⟩ := rt_fun h1 (.inr h2) h3 hb (closeT (catchE n e) e.toks ++ r) (right_free e h6 r)
  rw [List.append_assoc, List.append_assoc, exP_eq, termK_starts (first_term l h0 _), if_neg (by decide), hl _ (fun_kind _ _).1, pk_calm (fun_kind _ _).2, bind_okk]
  dsimp only
  rw [if_pos (fun_starts h4 _ _), g1, bind_okk]
  dsimp only
  rw [rt_close he _ r hr, bind_okk]
  rw [h2] at g2
  rw [g2, g3]
mutual
theorem rt_ex : ∀ (e : Ex) (w : Nat), e.ok w → RtE w e ∧ RtT w e
  | .leaf n, w, h => ⟨rt_term h rfl (rt_leaf h), rt_leaf h⟩
  | .one n b e, w, h => by
    have h' := h
    unfold Ex.ok at h'
    have k := rt_one h (rt_exs b (w + 1) h'.2.1) (rt_ex e w h'.2.2).1
    exact ⟨k, fun r _ => rt_left k r⟩
  | .two n l b e, w, h => by
    have h' := h
    unfold Ex.ok at h'
    have k := rt_two h (rt_ex l w h'.2.1).2 (rt_exs b (w + 1) h'.2.2.1) (rt_ex e w h'.2.2.2).1
    exact ⟨k, fun r _ => rt_left k r⟩
  | .pick n o b, w, h => by
    have h' := h
    unfold Ex.ok at h'
    have k := rt_pick h (rt_ex o w h'.2.1).2 (rt_exs b w h'.2.2)
    exact ⟨rt_term h rfl k, k⟩
theorem rt_exs : ∀ (b : Exs) (w : Nat), b.ok w → ∀ e ∈ b.list, RtE w e
  | .nil, w, h, e, he => by simp [Exs.list] at he
  | .cons x r, w, h, e, he => by
    unfold Exs.ok at h
    rw [Exs.list] at he
    rcases List.mem_cons.1 he with hx | he
    · rw [hx]
      exact (rt_ex x w h.1).1
    · exact rt_exs r w h.2 e he
end
/-- a word that may be printed -/
def TokP (t : Tok) : Prop := t.kind ≠ 10 ∧ (spellF [t]).2 = 0 ∧ I64 t.num ∧ I64 t.fn ∧ t.text.length ≤ 4294967280
theorem spell_one {t : Tok} (h : (speltF t).2 = 0) (hl : (speltF t).1.length ≤ 1000) : (spellF [t]).2 = 0 := by
  unfold spellF
  have he : errF [t] = 0 := by
    unfold errF
    rw [if_pos h]
    rfl
  have hj : Lib.join (textsF [t]) [32] = (speltF t).1 := by
    unfold textsF
    simp [Lib.join]
  rw [if_neg (by simp), he, hj, if_neg (by simp), if_neg (by omega)]
theorem tokP_k {k : Int} (h : k = 5 ∨ k = 6 ∨ k = 7 ∨ k = 8 ∨ k = 9 ∨ k = 11 ∨ k = 12 ∨ k = 13 ∨ k = 14 ∨ k = 15 ∨ k = 16 ∨ k = 17 ∨ k = 18 ∨ k = 19 ∨ k = 20) : TokP (tokK k) := by
  refine ⟨by simp [tokK]; omega, ?_, by simp [tokK, I64], by simp [tokK, I64], by simp [tokK]⟩
  rcases h with rfl | rfl | rfl | rfl | rfl | rfl | rfl | rfl | rfl | rfl | rfl | rfl | rfl | rfl | rfl <;> decide +kernel
theorem tokP_g {f : Int} (h : 1 ≤ f ∧ f ≤ 34) : TokP (tokG f) := by
  have h34 : ∀ k : Fin 34, (spellF [tokG ((k.val : Int) + 1)]).2 = 0 := by decide +kernel
  obtain ⟨k, rfl⟩ : ∃ k : Nat, f = (k : Int) + 1 := ⟨(f - 1).toNat, by omega⟩
  exact ⟨by simp [tokG], h34 ⟨k, by omega⟩, by simp [tokG, I64], by simp [tokG, I64]; omega, by simp [tokG]⟩
theorem tokP_n {x : Int} (h : I64 x) : TokP ⟨1, 0, x, [], 0⟩ := by
  refine ⟨by simp, ?_, h, by simp [I64], by simp⟩
  have hl := spelt_len (t := ⟨1, 0, x, [], 0⟩) (B := 0) h (by simp)
  exact spell_one (by simp [speltF, badTok]) (by omega)
theorem tokP_x {k : Int} {s : List UInt8} (hk : k = 2 ∨ k = 3) (h : spellOk k s = true) (hl : s.length ≤ 4294967280) : TokP ⟨k, 0, 0, s, 0⟩ := by
  unfold spellOk at h
  exact ⟨by simp; omega, of_decide_eq_true h, by simp [I64], by simp [I64], hl⟩
/-- what may stand in a node -/
def NumsP (n : Nod) : Prop := (∀ x ∈ n.nums, I64 x) ∧ n.text.length ≤ 4294967280
theorem tokP_close {must : Bool} {l : List Tok} (h : ∀ t ∈ l, TokP t) : ∀ t ∈ closeT must l, TokP t := by
  cases must with
  | false => exact h
  | true =>
    intro t ht
    simp only [closeT, if_true, List.mem_cons, List.mem_append, List.not_mem_nil, or_false] at ht
    rcases ht with rfl | ht | rfl
    · exact tokP_k (by decide)
    · exact h t ht
    · exact tokP_k (by decide)
theorem tokP_fun {n : Nod} (h : actOk n.aop n.af n.ag = true) {l : List Tok} (hl : ∀ t ∈ l, TokP t) : ∀ t ∈ funT n l, TokP t := by
  intro t ht
  unfold actOk at h
  unfold funT at ht
  split at ht
  · rename_i h3
    rw [if_pos (by omega)] at h
    have hg := of_decide_eq_true h
    simp only [List.mem_cons, List.not_mem_nil, or_false] at ht
    rcases ht with rfl | rfl | rfl
    · exact tokP_k (by decide)
    · exact tokP_k (by decide)
    · exact tokP_g ⟨hg.1, hg.2.1⟩
  split at ht
  · simp only [List.mem_cons, List.not_mem_nil, or_false] at ht
    subst ht
    exact tokP_k (by decide)
  split at ht
  · simp only [List.mem_cons, List.mem_append, List.not_mem_nil, or_false] at ht
    rcases ht with rfl | ht | rfl
    · exact tokP_k (by decide)
    · exact hl t ht
    · exact tokP_k (by decide)
  · rename_i h3 h7 h6
    have hg : 1 ≤ n.af ∧ n.af ≤ 34 ∧ (n.aop = 4 → 1 ≤ n.ag ∧ n.ag ≤ 34) := by
      split at h
      · have := of_decide_eq_true h
        exact ⟨this.1, this.2.1, fun _ => by omega⟩
      split at h
      · have := of_decide_eq_true h
        exact ⟨this.1, this.2.1, fun _ => this.2.2⟩
      split at h
      · omega
      · simp at h
    rcases List.mem_cons.1 ht with rfl | ht
    · exact tokP_g ⟨hg.1, hg.2.1⟩
    split at ht
    · simp only [List.mem_cons, List.not_mem_nil, or_false] at ht
      subst ht
      exact tokP_g (by decide)
    split at ht
    · simp only [List.mem_cons, List.not_mem_nil, or_false] at ht
      subst ht
      exact tokP_g (by decide)
    split at ht
    · simp only [List.mem_cons, List.not_mem_nil, or_false] at ht
      subst ht
      exact tokP_k (by decide)
    split at ht
    · rename_i h4
      simp only [List.mem_cons, List.not_mem_nil, or_false] at ht
      rcases ht with rfl | rfl
      · exact tokP_k (by decide)
      · exact tokP_g (hg.2.2 h4)
    · simp at ht
theorem tokP_leaf {w : Nat} {n : Nod} (h : (Ex.leaf n).ok w) (hn : NumsP n) : ∀ t ∈ (Ex.leaf n).toks, TokP t := by
  intro t ht
  obtain ⟨h1, h2⟩ := h
  unfold Ex.toks at ht
  split at ht
  · obtain ⟨x, hx, rfl⟩ := List.mem_map.1 ht
    exact tokP_n (hn.1 x hx)
  split at ht
  · rename_i h2
    obtain rfl := List.mem_singleton.1 ht
    refine tokP_x (.inl rfl) ?_ hn.2
    unfold rightN at h1
    rw [if_neg (show ¬ (n.op = 3 ∨ n.op = 9) by omega), if_pos h2] at h1
    simp only [Bool.and_eq_true] at h1
    exact h1.1.2
  split at ht
  · rename_i h3
    obtain rfl := List.mem_singleton.1 ht
    refine tokP_x (.inr rfl) ?_ hn.2
    unfold rightN at h1
    rw [if_pos (show (n.op = 3 ∨ n.op = 9) by omega)] at h1
    simp only [Bool.and_eq_true] at h1
    exact h1.1.2
  split at ht
  · obtain rfl := List.mem_singleton.1 ht
    exact tokP_k (by decide)
  · obtain rfl := List.mem_singleton.1 ht
    exact tokP_k (by decide)
mutual
theorem tokP_ex : ∀ (e : Ex) (w : Nat), e.ok w → (∀ n ∈ e.flat, NumsP n) → ∀ t ∈ e.toks, TokP t
  | .leaf n, w, h, hn => tokP_leaf h (hn n (by simp [Ex.flat]))
  | .one n b e, w, h, hn => by
    unfold Ex.ok at h
    rw [Ex.flat] at hn
    obtain ⟨⟨h1, h2, _⟩, h3, h4⟩ := h
    have hb := tokP_exs b (w + 1) h3 (fun x hx => hn x (by simp [hx]))
    have he := tokP_ex e w h4 (fun x hx => hn x (by simp [hx]))
    intro t ht
    rw [Ex.toks] at ht
    rcases List.mem_append.1 ht with ht | ht
    · exact tokP_fun (right_fun h1 (.inl h2)).2.2.1 (hb.2 false) t ht
    · exact tokP_close he t ht
  | .two n l b e, w, h, hn => by
    unfold Ex.ok at h
    rw [Ex.flat] at hn
    obtain ⟨⟨h1, h2, _⟩, h0, h3, h4⟩ := h
    have hl := tokP_ex l w h0 (fun x hx => hn x (by simp [hx]))
    have hb := tokP_exs b (w + 1) h3 (fun x hx => hn x (by simp [hx]))
    have he := tokP_ex e w h4 (fun x hx => hn x (by simp [hx]))
    intro t ht
    rw [Ex.toks] at ht
    rcases List.mem_append.1 ht with ht | ht
    · exact tokP_close hl t ht
    rcases List.mem_append.1 ht with ht | ht
    · exact tokP_fun (right_fun h1 (.inr h2)).2.2.1 (hb.2 false) t ht
    · exact tokP_close he t ht
  | .pick n o b, w, h, hn => by
    unfold Ex.ok at h
    rw [Ex.flat] at hn
    obtain ⟨_, h0, h3⟩ := h
    have ho := tokP_ex o w h0 (fun x hx => hn x (by simp [hx]))
    have hb := tokP_exs b w h3 (fun x hx => hn x (by simp [hx]))
    intro t ht
    rw [Ex.toks] at ht
    rcases List.mem_append.1 ht with ht | ht
    · exact tokP_close ho t ht
    rcases List.mem_cons.1 ht with rfl | ht
    · exact tokP_k (by decide)
    rcases List.mem_append.1 ht with ht | ht
    · exact hb.1 t ht
    · obtain rfl := List.mem_singleton.1 ht
      exact tokP_k (by decide)
theorem tokP_exs : ∀ (b : Exs) (w : Nat), b.ok w → (∀ n ∈ b.flat, NumsP n) → (∀ t ∈ b.semiT, TokP t) ∧ ∀ p, ∀ t ∈ b.bodyT p, TokP t
  | .nil, w, h, hn => ⟨fun t ht => by simp [Exs.semiT] at ht, fun p t ht => by simp [Exs.bodyT] at ht⟩
  | .cons e r, w, h, hn => by
    unfold Exs.ok at h
    rw [Exs.flat] at hn
    have he := tokP_ex e w h.1 (fun x hx => hn x (by simp [hx]))
    have hr := tokP_exs r w h.2 (fun x hx => hn x (by simp [hx]))
    refine ⟨fun t ht => ?_, fun p t ht => ?_⟩
    · rw [Exs.semiT] at ht
      rcases List.mem_append.1 ht with ht | ht
      · exact he t ht
      rcases List.mem_append.1 ht with ht | ht
      · split at ht
        · simp at ht
        · obtain rfl := List.mem_singleton.1 ht
          exact tokP_k (by decide)
      · exact hr.1 t ht
    · rw [Exs.bodyT] at ht
      rcases List.mem_append.1 ht with ht | ht
      · exact he t ht
      rcases List.mem_append.1 ht with ht | ht
      · split at ht
        · simp at ht
        split at ht
        · obtain rfl := List.mem_singleton.1 ht
          exact tokP_k (by decide)
        · obtain rfl := List.mem_singleton.1 ht
          exact tokP_k (by decide)
      · exact hr.2 _ t ht
end
/-- the words of a line -/
def toksL (t : Option Nod × Ex) : List Tok := match t.1 with
  | none => t.2.toks
  | some n => ⟨3, 0, 0, n.text, 0⟩ :: tokK 10 :: t.2.toks
/-- what is printed parses to the nodes that it was printed of -/
theorem back_line {L : List Nod} {t : Option Nod × Ex} (h : treeG L = some t) (hn : ∀ n ∈ L, NumsP n) : ∃ x, linP (toksL t) = .ok (x, []) ∧ lineN x = L ∧ ∀ u ∈ toksL t, (spellF [u]).2 = 0 ∧ I64 u.num ∧ I64 u.fn ∧ u.text.length ≤ 4294967280 := by
  have hcalm : Calm 0 ([] : List Tok) := ⟨by simp [startsT, kindT], by simp [kindT], by simp [kindT]⟩
  match L, h, hn with
  | [], h, _ => simp [treeG] at h
  | n :: r, h, hn =>
    change (if n.op = 9 ∧ rightN n = true then (match exF 0 r with
      | some (e, []) => some (some n, e)
      | _ => none) else match exF 0 (n :: r) with
      | some (e, []) => some (none, e)
      | _ => none) = some t at h
    split at h
    · rename_i h9
      split at h
      · rename_i e he
        obtain ⟨ok, hl⟩ := exF_iff.1 he
        obtain rfl := Option.some.inj h
        rw [List.append_nil] at hl
        have hp := (rt_ex e 0 ok).1 [] hcalm
        rw [List.append_nil] at hp
        obtain ⟨a1, a2, a3, a4, a5, a6⟩ := right_leaf h9.2 (by omega)
        obtain ⟨op, aop, af, ag, k, nums, text⟩ := n
        dsimp only at a1 a2 a3 a4 a5 a6 h9
        obtain rfl := h9.1
        subst a1 a2 a3 a4
        obtain rfl : nums = [] := by simpa using a5
        refine ⟨(some text, e), ?_, ?_, ?_⟩
        · show linP (⟨3, 0, 0, text, 0⟩ :: tokK 10 :: e.toks) = _
          unfold linP
          dsimp only
          rw [if_pos ⟨rfl, rfl⟩, hp]
          rfl
        · show _ :: e.flat = _
          rw [hl]
        · intro u hu
          have hs : spellOk 3 text = true := by
            have := h9.2
            unfold rightN at this
            rw [if_pos (show ((9 : Int) = 3 ∨ (9 : Int) = 9) by decide)] at this
            simp only [Bool.and_eq_true] at this
            exact this.1.2
          rcases List.mem_cons.1 hu with rfl | hu
          · exact (tokP_x (.inr rfl) hs (hn _ (.head _)).2).2
          rcases List.mem_cons.1 hu with rfl | hu
          · exact ⟨by decide +kernel, by simp [tokK, I64], by simp [tokK, I64], by simp [tokK]⟩
          · exact (tokP_ex e 0 ok (fun x hx => hn x (by rw [hl]; exact .tail _ hx)) u hu).2
      · simp at h
    · split at h
      · rename_i e he
        obtain ⟨ok, hl⟩ := exF_iff.1 he
        obtain rfl := Option.some.inj h
        rw [List.append_nil] at hl
        have hp := (rt_ex e 0 ok).1 [] hcalm
        rw [List.append_nil] at hp
        have hall := tokP_ex e 0 ok (fun x hx => hn x (by rw [hl]; exact hx))
        refine ⟨(none, e), ?_, hl.symm, fun u hu => (hall u hu).2⟩
        show linP e.toks = _
        unfold linP
        split
        · rename_i t u r' heq
          rw [if_neg (fun hk => (hall u (by rw [heq]; simp)).1 hk.2), hp]
          rfl
        · rw [hp]
          rfl
      · simp at h
end Go.Proofs.YtngeooflfkpikaaGreatDoor
namespace Go.Proofs.YtngeooflfkpikaaGreatDoor
def numsT : List Nod → Nat
  | [] => 0
  | n :: r => n.nums.length + numsT r
theorem numsT_app : ∀ a b : List Nod, numsT (a ++ b) = numsT a + numsT b
  | [], b => by simp [numsT]
  | n :: r, b => by simp only [List.cons_append, numsT, numsT_app r b]; omega
theorem numsT_le {l : List Nod} {B : Nat} (h : ∀ n ∈ l, n.nums.length ≤ B) : numsT l ≤ l.length * B := by
  induction l with
  | nil => simp [numsT]
  | cons n r ih =>
    have h1 := ih fun x hx => h x (List.mem_cons_of_mem _ hx)
    have h2 := h n (.head _)
    rw [numsT, List.length_cons, Nat.succ_mul]
    omega
theorem closeT_len (m : Bool) (l : List Tok) : (closeT m l).length ≤ l.length + 2 := by
  cases m <;> simp [closeT]
theorem funT_len (n : Nod) (l : List Tok) : (funT n l).length ≤ l.length + 3 := by
  unfold funT
  split
  · simp
  split
  · simp
  split
  · simp
  · split
    · simp
    split
    · simp
    split
    · simp
    split
    · simp
    · simp
mutual
theorem Ex.toks_len : ∀ e : Ex, e.toks.length + 1 ≤ 8 * e.flat.length + numsT e.flat
  | .leaf n => by
    simp only [Ex.toks, Ex.flat, numsT, List.length_singleton]
    split
    · simp; omega
    split
    · simp; omega
    split
    · simp; omega
    split
    · simp; omega
    · simp; omega
  | .one n b r => by
    have h1 := (Exs.toks_len b).2 false
    have h2 := Ex.toks_len r
    have h3 := closeT_len (catchE n r) r.toks
    have h4 := funT_len n (b.bodyT false)
    simp only [Ex.toks, Ex.flat, List.length_append, List.length_cons, numsT, numsT_app]
    omega
  | .two n l b r => by
    have h1 := (Exs.toks_len b).2 false
    have h2 := Ex.toks_len r
    have h5 := Ex.toks_len l
    have h3 := closeT_len (catchE n r) r.toks
    have h6 := closeT_len l.comp l.toks
    have h4 := funT_len n (b.bodyT false)
    simp only [Ex.toks, Ex.flat, List.length_append, List.length_cons, numsT, numsT_app]
    omega
  | .pick n o b => by
    have h1 := (Exs.toks_len b).1
    have h5 := Ex.toks_len o
    have h6 := closeT_len o.comp o.toks
    simp only [Ex.toks, Ex.flat, List.length_append, List.length_cons, List.length_nil, numsT, numsT_app]
    omega
theorem Exs.toks_len : ∀ b : Exs, b.semiT.length ≤ 8 * b.flat.length + numsT b.flat ∧ ∀ p, (b.bodyT p).length ≤ 8 * b.flat.length + numsT b.flat
  | .nil => by simp [Exs.semiT, Exs.bodyT]
  | .cons e r => by
    have h1 := Ex.toks_len e
    obtain ⟨h2, h3⟩ := Exs.toks_len r
    refine ⟨?_, fun p => ?_⟩
    · simp only [Exs.semiT, Exs.flat, List.length_append, numsT_app]
      split
      · simp only [List.length_nil]; omega
      · simp only [List.length_singleton]; omega
    · have h4 := h3 (!p)
      simp only [Exs.bodyT, Exs.flat, List.length_append, numsT_app]
      split
      · simp only [List.length_nil]; omega
      split
      · simp only [List.length_singleton]; omega
      · simp only [List.length_singleton]; omega
end
/-- are the first words a Glyph that is Slash or Slope? -/
def firstG : List Tok → Bool
  | [] => false
  | t :: _ => decide (t.kind = 4 ∧ (t.fn = 33 ∨ t.fn = 34))
end Go.Proofs.YtngeooflfkpikaaGreatDoor
