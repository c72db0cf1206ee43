/-
  Code in pieces: what the reference makes of each function, and how pieces are laid one behind the other; that this is the code. Of no program.
-/
import Derived.Test.YtngeooflfkpikaaGreatDoorYCodePlain
namespace Go.Proofs.YtngeooflfkpikaaGreatDoor
/-- a function's instruction: a Call of what is written out goes to -1, one of itself to -2 -/
def actN (n : Nod) (g : Int) : Ins := if n.aop = 6 then callI g (-1) else if n.aop = 7 then callI g (-2) else ⟨5 + g, n.aop, n.af, n.ag, 0, 0, [], []⟩
mutual
/-- an expression's piece -/
def Ex.pcs : Ex → List Ins
  | .leaf n => [leafI n]
  | .one n _ r => r.pcs ++ [actN n 1]
  | .two n l _ r => r.pcs ++ (l.pcs ++ [actN n 2])
  | .pick n o b => b.pcsR ++ (o.pcs ++ [pickI n.n])
def Exs.pcsR : Exs → List Ins
  | .nil => []
  | .cons e r => r.pcsR ++ e.pcs
end
/-- a function's piece, as if it began at o -/
def Exs.pcsF (o : Nat) : Exs → List Ins
  | .nil => []
  | .cons e .nil => e.pcs ++ [retI]
  | .cons c (.cons v r) => c.pcs ++ testI ((o + c.pcs.length + 1 + v.pcs.length + 1 : Nat) : Int) :: (v.pcs ++ retI :: r.pcsF (o + c.pcs.length + 1 + v.pcs.length + 1))
/-- a Call of what is written out -/
def isM (i : Ins) : Bool := decide (i.op = 10 ∧ i.«to» ≠ -2)
/-- an instruction of a piece that begins at s, laid down; t: where the next Call goes -/
def lay1 (i : Ins) (s : Nat) (t : Int) : Ins := if i.op = 9 then setTo (i.«to» + (s : Int)) i else if i.op = 10 then (if i.«to» = -2 then setTo (s : Int) i else setTo t i) else i
/-- pieces laid down: each instruction with the place where its piece begins; ts: where Calls go, 0 where that is not known -/
def layL : List (Ins × Nat) → List Int → List Ins
  | [], _ => []
  | (i, s) :: r, ts => if isM i = true then lay1 i s (ts.headD 0) :: layL r ts.tail else lay1 i s 0 :: layL r ts
/-- where Calls of what is written out stand -/
def marks (o : Nat) : List (Ins × Nat) → List Nat
  | [] => []
  | (i, _) :: r => if isM i = true then o :: marks (o + 1) r else marks (o + 1) r
theorem layL_len : ∀ (l : List (Ins × Nat)) (ts : List Int), (layL l ts).length = l.length
  | [], _ => rfl
  | (i, s) :: r, ts => by
    rw [layL]
    split
    · simp [layL_len r]
    · simp [layL_len r]
theorem marks_app (o : Nat) : ∀ (a b : List (Ins × Nat)), marks o (a ++ b) = marks o a ++ marks (o + a.length) b
  | [], b => by simp [marks]
  | (i, s) :: a, b => by
    rw [List.cons_append, marks, marks, marks_app (o + 1) a b, List.length_cons, show o + (a.length + 1) = o + 1 + a.length by omega]
    split <;> rfl
theorem layL_app : ∀ (a b : List (Ins × Nat)) (ts : List Int) (o : Nat), layL (a ++ b) ts = layL a ts ++ layL b (ts.drop (marks o a).length)
  | [], b, ts, o => by simp [layL, marks]
  | (i, s) :: a, b, ts, o => by
    rw [List.cons_append, layL, layL, marks]
    split
    · rw [layL_app a b ts.tail (o + 1), List.length_cons]
      simp
    · rw [layL_app a b ts (o + 1)]
      rfl
/-- one more Call is told its place -/
theorem layL_patch : ∀ (l : List (Ins × Nat)) (ts : List Int) (o k : Nat) (t : Int), (marks o l)[ts.length]? = some (o + k) → patch (layL l ts) k t = layL l (ts ++ [t])
  | [], _, _, _, _, h => by simp [marks] at h
  | (i, s) :: r, ts, o, k, t, h => by
    have hge : ∀ (r : List (Ins × Nat)) (o x : Nat), x ∈ marks o r → o ≤ x := by
      intro r
      induction r with
      | nil => intro o x hx; simp [marks] at hx
      | cons a r ih =>
        obtain ⟨i, s⟩ := a
        intro o x hx
        rw [marks] at hx
        split at hx
        · rcases List.mem_cons.1 hx with rfl | hx
          · exact Nat.le_refl _
          · have := ih _ _ hx; omega
        · have := ih _ _ hx; omega
    rw [marks] at h
    rw [layL, layL]
    split at h
    · rename_i hm
      rw [if_pos hm, if_pos hm]
      cases ts with
      | nil =>
        simp only [List.length_nil, List.getElem?_cons_zero, Option.some.injEq] at h
        obtain rfl : k = 0 := by omega
        simp only [patch, List.modify_zero_cons, List.headD_nil, List.tail_nil, List.nil_append, List.headD_cons, List.tail_cons]
        congr 1
        unfold isM at hm
        have := of_decide_eq_true hm
        unfold lay1
        rw [if_neg (by omega), if_pos this.1, if_neg this.2, if_neg (by omega), if_pos this.1, if_neg this.2]
        rfl
      | cons t0 ts =>
        rw [List.length_cons, List.getElem?_cons_succ] at h
        have := hge _ _ _ (List.mem_of_getElem? h)
        obtain ⟨k', rfl⟩ : ∃ k', k = k' + 1 := ⟨k - 1, by omega⟩
        rw [show o + (k' + 1) = o + 1 + k' by omega] at h
        have ih := layL_patch r ts (o + 1) k' t h
        simp only [patch] at ih ⊢
        simp only [List.headD_cons, List.tail_cons, List.cons_append, List.modify_succ_cons, ih]
    · rename_i hm
      rw [if_neg hm, if_neg hm]
      have := hge _ _ _ (List.mem_of_getElem? h)
      obtain ⟨k', rfl⟩ : ∃ k', k = k' + 1 := ⟨k - 1, by omega⟩
      rw [show o + (k' + 1) = o + 1 + k' by omega] at h
      have ih := layL_patch r ts (o + 1) k' t h
      simp only [patch] at ih ⊢
      simp only [List.modify_succ_cons, ih]
def at_ (s : Nat) (c : List Ins) : List (Ins × Nat) := c.map fun i => (i, s)
theorem at_app (s : Nat) (a b : List Ins) : at_ s (a ++ b) = at_ s a ++ at_ s b := List.map_append
theorem at_len (s : Nat) (a : List Ins) : (at_ s a).length = a.length := List.length_map _
mutual
theorem Ex.pcs_len : ∀ e : Ex, e.pcs.length = (e.code 0).length
  | .leaf _ => rfl
  | .one _ _ r => by simp [Ex.pcs, Ex.code, Ex.pcs_len r]
  | .two _ l _ r => by simp [Ex.pcs, Ex.code, Ex.pcs_len r, Ex.pcs_len l]
  | .pick _ o b => by simp [Ex.pcs, Ex.code, Ex.pcs_len o, Exs.pcsR_len b]
theorem Exs.pcsR_len : ∀ b : Exs, b.pcsR.length = (b.codeR 0).length
  | .nil => rfl
  | .cons e r => by simp [Exs.pcsR, Exs.codeR, Ex.pcs_len e, Exs.pcsR_len r]
end
/-- laid down where no Call knows its place -/
theorem lay_app0 (a b : List (Ins × Nat)) : layL (a ++ b) [] = layL a [] ++ layL b [] := by
  rw [layL_app a b [] 0, List.drop_nil]
theorem lay_one (i : Ins) (s : Nat) : layL [(i, s)] [] = [lay1 i s 0] := by
  unfold layL
  split <;> rfl
theorem lay_act (n : Nod) (g : Int) (s : Nat) (hg : g = 1 ∨ g = 2) : lay1 (actN n g) s 0 = actI (s : Int) n g := by
  unfold actN actI
  by_cases h6 : n.aop = 6
  · rw [if_pos h6, if_pos h6]
    rfl
  rw [if_neg h6, if_neg h6]
  by_cases h7 : n.aop = 7
  · rw [if_pos h7, if_pos h7]
    rfl
  rw [if_neg h7, if_neg h7]
  unfold lay1
  rw [if_neg (by dsimp only; omega), if_neg (by dsimp only; omega)]
theorem lay_plain {i : Ins} (h9 : i.op ≠ 9) (h10 : i.op ≠ 10) (s : Nat) (t : Int) : lay1 i s t = i := by
  unfold lay1
  rw [if_neg h9, if_neg h10]
theorem leaf_op {n : Nod} {d : Nat} (h : (Ex.leaf n).ok d) : (leafI n).op ≠ 9 ∧ (leafI n).op ≠ 10 := by
  obtain ⟨_, h2⟩ := h
  unfold leafI
  rcases h2 with h | h | h | ⟨h | h, _⟩ <;> simp [h, ins0]
mutual
theorem Ex.lay : ∀ (e : Ex) (d s : Nat), e.ok d → layL (at_ s e.pcs) [] = e.code (s : Int)
  | .leaf n, d, s, h => by
    rw [Ex.pcs, Ex.code]
    show layL [(leafI n, s)] [] = _
    rw [lay_one, lay_plain (leaf_op h).1 (leaf_op h).2]
  | .one n b r, d, s, h => by
    unfold Ex.ok at h
    rw [Ex.pcs, Ex.code, at_app, lay_app0, Ex.lay r d s h.2.2]
    show _ ++ layL [(actN n 1, s)] [] = _
    rw [lay_one, lay_act n 1 s (.inl rfl)]
  | .two n l b r, d, s, h => by
    unfold Ex.ok at h
    rw [Ex.pcs, Ex.code, at_app, at_app, lay_app0, lay_app0, Ex.lay r d s h.2.2.2, Ex.lay l d s h.2.1]
    show _ ++ (_ ++ layL [(actN n 2, s)] []) = _
    rw [lay_one, lay_act n 2 s (.inr rfl)]
  | .pick n o b, d, s, h => by
    unfold Ex.ok at h
    rw [Ex.pcs, Ex.code, at_app, at_app, lay_app0, lay_app0, Ex.lay o d s h.2.1, Exs.layR b d s h.2.2]
    show _ ++ (_ ++ layL [(pickI n.n, s)] []) = _
    rw [lay_one, lay_plain (by simp [pickI]) (by simp [pickI])]
theorem Exs.layR : ∀ (b : Exs) (d s : Nat), b.ok d → layL (at_ s b.pcsR) [] = b.codeR (s : Int)
  | .nil, _, _, _ => rfl
  | .cons e r, d, s, h => by
    unfold Exs.ok at h
    rw [Exs.pcsR, Exs.codeR, at_app, lay_app0, Exs.layR r d s h.2, Ex.lay e d s h.1]
end
theorem Exs.layF : ∀ (b : Exs) (d s o : Nat), b.ok d → layL (at_ s (b.pcsF o)) [] = b.func (s : Int) (s + o)
  | .nil, _, _, _, _ => rfl
  | .cons e .nil, d, s, o, h => by
    unfold Exs.ok at h
    rw [Exs.pcsF, Exs.func, at_app, lay_app0, Ex.lay e d s h.1]
    show _ ++ layL [(retI, s)] [] = _
    rw [lay_one, lay_plain (by simp [retI, ins0]) (by simp [retI, ins0])]
  | .cons c (.cons v r), d, s, o, h => by
    unfold Exs.ok at h
    have h2 := h.2
    unfold Exs.ok at h2
    have ih := Exs.layF r d s (o + c.pcs.length + 1 + v.pcs.length + 1) h2.2
    rw [Exs.pcsF, Exs.func, at_app, lay_app0, Ex.lay c d s h.1]
    congr 1
    show layL ([(testI _, s)] ++ at_ s _) [] = _
    rw [lay_app0, lay_one, at_app, lay_app0, Ex.lay v d s h2.1]
    show _ ++ (_ ++ layL ([(retI, s)] ++ at_ s _) []) = _
    rw [lay_app0, lay_one, ih, lay_plain (i := retI) (by simp [retI, ins0]) (by simp [retI, ins0]), Ex.pcs_len c, Ex.pcs_len v]
    have e1 : s + (o + (c.code 0).length + 1 + (v.code 0).length + 1) = s + o + (c.code 0).length + 1 + (v.code 0).length + 1 := by omega
    rw [e1]
    simp only [List.singleton_append, List.cons.injEq, and_true]
    unfold lay1 testI setTo
    rw [if_pos rfl]
    congr 1
    dsimp only
    omega
theorem not_mark {i : Ins} (h : i.op ≠ 10) : isM i = false := decide_eq_false (fun k => h k.1)
theorem mark_act (n : Nod) (b : Exs) (pos o s : Nat) (g : Int) (hg : g = 1 ∨ g = 2) : marks o [(actN n g, s)] = (actW n b pos o).map Wt.call := by
  unfold actN actW
  by_cases h6 : n.aop = 6
  · rw [if_pos h6, if_pos h6]
    rfl
  rw [if_neg h6, if_neg h6]
  by_cases h7 : n.aop = 7
  · rw [if_pos h7]
    rfl
  rw [if_neg h7]
  unfold marks
  rw [not_mark (by dsimp only; omega)]
  rfl
theorem mark_one {i : Ins} (h : i.op ≠ 10) (o s : Nat) : marks o [(i, s)] = [] := by
  unfold marks
  rw [not_mark h]
  rfl
mutual
theorem Ex.marks_eq : ∀ (e : Ex) (d o p s : Nat), e.ok d → marks o (at_ s e.pcs) = (e.waits o p).map Wt.call
  | .leaf n, d, o, p, s, h => by
    show marks o [(leafI n, s)] = []
    exact mark_one (leaf_op h).2 o s
  | .one n b r, d, o, p, s, h => by
    unfold Ex.ok at h
    rw [Ex.pcs, Ex.waits, at_app, marks_app, List.map_append, Ex.marks_eq r d o (p + 1 + b.flat.length) s h.2.2, at_len, Ex.pcs_len]
    congr 1
    exact mark_act n b (p + 1) _ s 1 (.inl rfl)
  | .two n l b r, d, o, p, s, h => by
    unfold Ex.ok at h
    rw [Ex.pcs, Ex.waits, at_app, at_app, marks_app, marks_app, List.map_append, List.map_append, Ex.marks_eq r d o (p + 1 + l.flat.length + b.flat.length) s h.2.2.2, at_len, at_len, Ex.pcs_len, Ex.pcs_len, Ex.marks_eq l d _ (p + 1) s h.2.1]
    congr 2
    exact mark_act n b _ _ s 2 (.inr rfl)
  | .pick n e b, d, o, p, s, h => by
    unfold Ex.ok at h
    rw [Ex.pcs, Ex.waits, at_app, at_app, marks_app, marks_app, List.map_append, Exs.marks_eqR b d o (p + 1 + e.flat.length) s h.2.2, at_len, Exs.pcsR_len, Ex.marks_eq e d _ (p + 1) s h.2.1]
    congr 1
    rw [show at_ s [pickI n.n] = [(pickI n.n, s)] from rfl, mark_one (by simp [pickI]), List.append_nil]
theorem Exs.marks_eqR : ∀ (b : Exs) (d o p s : Nat), b.ok d → marks o (at_ s b.pcsR) = (b.waitsR o p).map Wt.call
  | .nil, _, _, _, _, _ => rfl
  | .cons e r, d, o, p, s, h => by
    unfold Exs.ok at h
    rw [Exs.pcsR, Exs.waitsR, at_app, marks_app, List.map_append, Exs.marks_eqR r d o (p + e.flat.length) s h.2, at_len, Exs.pcsR_len, Ex.marks_eq e d _ p s h.1]
end
theorem Exs.marks_eqF : ∀ (b : Exs) (d q o p s : Nat), b.ok d → marks o (at_ s (b.pcsF q)) = (b.funcW o p).map Wt.call
  | .nil, _, _, _, _, _, _ => rfl
  | .cons e .nil, d, q, o, p, s, h => by
    unfold Exs.ok at h
    rw [Exs.pcsF, Exs.funcW, at_app, marks_app, Ex.marks_eq e d o p s h.1, show at_ s [retI] = [(retI, s)] from rfl, mark_one (by simp [retI, ins0]), List.append_nil]
  | .cons c (.cons v r), d, q, o, p, s, h => by
    unfold Exs.ok at h
    have h2 := h.2
    unfold Exs.ok at h2
    have ih := Exs.marks_eqF r d (q + c.pcs.length + 1 + v.pcs.length + 1) (o + (c.code 0).length + 1 + (v.code 0).length + 1) (p + c.flat.length + v.flat.length) s h2.2
    rw [Exs.pcsF, Exs.funcW, at_app, marks_app, List.map_append, List.map_append, Ex.marks_eq c d o p s h.1, at_len, Ex.pcs_len c]
    congr 1
    rw [Ex.pcs_len c, Ex.pcs_len v] at ih
    rw [Ex.pcs_len v]
    show marks _ ([(testI _, s)] ++ at_ s _) = _
    rw [marks_app, mark_one (by simp [testI]), List.nil_append, List.length_singleton, at_app, marks_app, Ex.marks_eq v d _ (p + c.flat.length) s h2.1, at_len, Ex.pcs_len v]
    congr 1
/-- pieces laid one behind the other: so many functions are made -/
def roundsP : Nat → List (Ins × Nat) → List Int → List Wt → List (Ins × Nat) × List Int × List Wt
  | 0, l, ts, q => (l, ts, q)
  | _ + 1, l, ts, [] => (l, ts, [])
  | f + 1, l, ts, w :: q => roundsP f (l ++ at_ l.length (w.b.pcsF 0)) (ts ++ [(l.length : Int)]) (q ++ w.b.funcW l.length w.pos)
/-- that is the code -/
theorem rounds_lay : ∀ (f : Nat) (l : List (Ins × Nat)) (ts : List Int) (q : List Wt), (∀ w ∈ q, WOk w) → q.map Wt.call = (marks 0 l).drop ts.length →
    roundsC f (layL l ts) q = (layL (roundsP f l ts q).1 (roundsP f l ts q).2.1, (roundsP f l ts q).2.2)
  | 0, _, _, _, _, _ => rfl
  | _ + 1, _, _, [], _, _ => rfl
  | f + 1, l, ts, w :: q, hok, hq => by
    obtain ⟨d, hd⟩ := (hok w (.head _)).1
    have hget : (marks 0 l)[ts.length]? = some (0 + w.call) := by
      have : ((marks 0 l).drop ts.length)[0]? = some w.call := by rw [← hq]; rfl
      rw [List.getElem?_drop, Nat.add_zero] at this
      rw [this, Nat.zero_add]
    have hlt : ts.length < (marks 0 l).length := (List.getElem?_eq_some_iff.1 hget).1
    have hpatch := layL_patch l ts 0 w.call (l.length : Int) hget
    have hc : stepC (layL l ts) w q = (layL (l ++ at_ l.length (w.b.pcsF 0)) (ts ++ [(l.length : Int)]), q ++ w.b.funcW l.length w.pos) := by
      unfold stepC
      rw [layL_len, hpatch, layL_app l _ _ 0, List.drop_eq_nil_of_le (by rw [List.length_append, List.length_singleton]; omega), Exs.layF w.b _ l.length 0 hd]
      rfl
    rw [roundsC, roundsP, hc]
    refine rounds_lay f _ _ _ (fun x hx => ?_) ?_
    · rcases List.mem_append.1 hx with hx | hx
      · exact hok x (List.mem_cons_of_mem _ hx)
      · exact Exs.funcW_ok w.b _ _ _ hd x hx
    · rw [List.map_append, marks_app, Nat.zero_add, List.length_append, List.length_singleton, List.drop_append_of_le_length (by omega), Exs.marks_eqF w.b _ 0 l.length w.pos l.length hd]
      congr 1
      have h1 : (marks 0 l).drop (ts.length + 1) = ((marks 0 l).drop ts.length).tail := by rw [List.tail_drop]
      rw [h1, ← hq]
      rfl
theorem rounds_done : ∀ (f : Nat) (l : List (Ins × Nat)) (ts : List Int) (q : List Wt), waitN q ≤ f → (roundsP f l ts q).2.2 = []
  | 0, _, _, [], _ => rfl
  | 0, _, _, w :: q, h => by simp [waitN] at h
  | _ + 1, _, _, [], _ => rfl
  | f + 1, l, ts, w :: q, h => by
    rw [roundsP]
    refine rounds_done f _ _ _ ?_
    rw [waitN_app]
    have := Exs.waitN_func w.b l.length w.pos
    rw [waitN] at h
    omega
/-- the pieces of a line's code -/
def pieces (p : Nat) (e : Ex) : List (Ins × Nat) × List Int × List Wt := roundsP e.dfns (at_ 0 (e.pcs ++ [retI])) [] (e.waits 0 p)
theorem comp_pieces {d : Nat} {e : Ex} (h : e.ok d) (p : Nat) : compC p e = layL (pieces p e).1 (pieces p e).2.1 ∧ (pieces p e).2.2 = [] := by
  have h0 : layL (at_ 0 (e.pcs ++ [retI])) [] = e.code 0 ++ [retI] := by
    rw [at_app, lay_app0, Ex.lay e d 0 h]
    show _ ++ layL [(retI, 0)] [] = _
    rw [lay_one, lay_plain (by simp [retI, ins0]) (by simp [retI, ins0])]
    rfl
  have hm : (e.waits 0 p).map Wt.call = (marks 0 (at_ 0 (e.pcs ++ [retI]))).drop ([] : List Int).length := by
    rw [at_app, marks_app, Ex.marks_eq e d 0 p 0 h, show at_ 0 [retI] = [(retI, 0)] from rfl, mark_one (by simp [retI, ins0]), List.append_nil]
    rfl
  have hr := rounds_lay e.dfns _ [] _ (Ex.waits_ok e d 0 p h) hm
  refine ⟨?_, rounds_done _ _ _ _ (Ex.waitN_le e 0 p)⟩
  unfold compC pieces
  rw [← h0, hr]
end Go.Proofs.YtngeooflfkpikaaGreatDoor
