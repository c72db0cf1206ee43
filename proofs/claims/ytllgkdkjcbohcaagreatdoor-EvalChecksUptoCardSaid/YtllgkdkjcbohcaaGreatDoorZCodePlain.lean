/-
  What code is made of a tree, told plainly. Of no program.
  The parts of an expression, one behind the other. Of no program.
  Code that is made of a tree, told plainly: how long it is; where its Calls and Tests go. Of no program.
  Where those that wait find their nodes; how long code can be. Of no program.
  Code that is made of a tree: where its nodes lie does not matter. Of no program.
-/
import Derived.Test.YtllgkdkjcbohcaaGreatDoorZTreeEx
namespace Go.Proofs.YtllgkdkjcbohcaaGreatDoor
abbrev ins0 (op : Int) : Ins := ⟨op, 0, 0, 0, 0, 0, [], []⟩
def retI : Ins := ins0 11
def testI (t : Int) : Ins := ⟨9, 0, 0, 0, 0, t, [], []⟩
def callI (g t : Int) : Ins := ⟨10, 0, 0, 0, g, t, [], []⟩
def pickI (n : Int) : Ins := ⟨8, 0, 0, 0, n, 0, [], []⟩
/-- a leaf's instruction -/
def leafI (n : Nod) : Ins := if n.op = 1 then ⟨1, 0, 0, 0, 0, 0, n.nums, []⟩ else if n.op = 2 then ⟨2, 0, 0, 0, 0, 0, [], n.text⟩ else if n.op = 3 then ⟨3, 0, 0, 0, 0, 0, [], n.text⟩ else ins0 n.op
/-- a function's instruction; h: where the function about it begins -/
def actI (h : Int) (n : Nod) (g : Int) : Ins := if n.aop = 6 then callI g 0 else if n.aop = 7 then callI g h else ⟨5 + g, n.aop, n.af, n.ag, 0, 0, [], []⟩
mutual
/-- an expression's code -/
def Ex.code (h : Int) : Ex → List Ins
  | .leaf n => [leafI n]
  | .one n _ r => r.code h ++ [actI h n 1]
  | .two n l _ r => r.code h ++ (l.code h ++ [actI h n 2])
  | .pick n o b => b.codeR h ++ (o.code h ++ [pickI n.n])
/-- .. of many, the last one first -/
def Exs.codeR (h : Int) : Exs → List Ins
  | .nil => []
  | .cons e r => r.codeR h ++ e.code h
end
/-- a function that waits for its code: what is written out of it, where its nodes begin, how many conditions, the Call that is to know its place -/
structure Wt where
  b : Exs
  pos : Nat
  n : Int
  call : Nat
def actW (n : Nod) (b : Exs) (pos call : Nat) : List Wt := if n.aop = 6 then [⟨b, pos, n.n, call⟩] else []
mutual
/-- the functions that wait behind an expression's code; o: where its code begins, p: where its nodes begin -/
def Ex.waits (o p : Nat) : Ex → List Wt
  | .leaf _ => []
  | .one n b r => r.waits o (p + 1 + b.flat.length) ++ actW n b (p + 1) (o + (r.code 0).length)
  | .two n l b r => r.waits o (p + 1 + l.flat.length + b.flat.length) ++ (l.waits (o + (r.code 0).length) (p + 1) ++ actW n b (p + 1 + l.flat.length) (o + (r.code 0).length + (l.code 0).length))
  | .pick _ e b => b.waitsR o (p + 1 + e.flat.length) ++ e.waits (o + (b.codeR 0).length) (p + 1)
def Exs.waitsR (o p : Nat) : Exs → List Wt
  | .nil => []
  | .cons e r => r.waitsR o (p + e.flat.length) ++ e.waits (o + (r.codeR 0).length) p
end
mutual
theorem Ex.code_len (h : Int) : ∀ e : Ex, (e.code h).length = (e.code 0).length
  | .leaf _ => rfl
  | .one _ _ r => by simp [Ex.code, Ex.code_len h r]
  | .two _ l _ r => by simp [Ex.code, Ex.code_len h r, Ex.code_len h l]
  | .pick _ o b => by simp [Ex.code, Ex.code_len h o, Exs.codeR_len h b]
theorem Exs.codeR_len (h : Int) : ∀ b : Exs, (b.codeR h).length = (b.codeR 0).length
  | .nil => rfl
  | .cons e r => by simp [Exs.codeR, Ex.code_len h e, Exs.codeR_len h r]
end
/-- a function's code, which begins at o -/
def Exs.func (h : Int) (o : Nat) : Exs → List Ins
  | .nil => []
  | .cons e .nil => e.code h ++ [retI]
  | .cons c (.cons v r) => c.code h ++ testI ((o + (c.code 0).length + 1 + (v.code 0).length + 1 : Nat) : Int) :: (v.code h ++ retI :: r.func h (o + (c.code 0).length + 1 + (v.code 0).length + 1))
def Exs.funcW (o p : Nat) : Exs → List Wt
  | .nil => []
  | .cons e .nil => e.waits o p
  | .cons c (.cons v r) => c.waits o p ++ (v.waits (o + (c.code 0).length + 1) (p + c.flat.length) ++ r.funcW (o + (c.code 0).length + 1 + (v.code 0).length + 1) (p + c.flat.length + v.flat.length))
def setTo (t : Int) (i : Ins) : Ins := { i with «to» := t }
/-- the instruction at a place goes there -/
def patch (c : List Ins) (k : Nat) (t : Int) : List Ins := c.modify k (setTo t)
/-- code and those that wait, the first of them done -/
def stepC (c : List Ins) (w : Wt) (q : List Wt) : List Ins × List Wt := (patch c w.call c.length ++ w.b.func c.length c.length, q ++ w.b.funcW c.length w.pos)
end Go.Proofs.YtllgkdkjcbohcaaGreatDoor
namespace Go.Proofs.YtllgkdkjcbohcaaGreatDoor
def Exs.list : Exs → List Ex
  | .nil => []
  | .cons e r => e :: r.list
def Ex.head : Ex → Nod
  | .leaf n => n
  | .one n _ _ => n
  | .two n _ _ _ => n
  | .pick n _ _ => n
def Ex.subs : Ex → List Ex
  | .leaf _ => []
  | .one _ b r => b.list ++ [r]
  | .two _ l b r => l :: (b.list ++ [r])
  | .pick _ o b => o :: b.list
theorem Exs.list_len : ∀ b : Exs, b.list.length = b.len
  | .nil => rfl
  | .cons e r => by simp [Exs.list, Exs.len, Exs.list_len r]
theorem Exs.list_flat : ∀ b : Exs, b.list.flatMap Ex.flat = b.flat
  | .nil => rfl
  | .cons e r => by simp [Exs.list, Exs.flat, Exs.list_flat r]
theorem Exs.list_ok : ∀ (b : Exs) (d : Nat), b.ok d → ∀ s ∈ b.list, s.ok d
  | .nil, _, _, s, hs => by cases hs
  | .cons e r, d, h, s, hs => by
    rcases List.mem_cons.1 hs with rfl | hs
    · exact h.1
    · exact Exs.list_ok r d h.2 s hs
theorem Ex.flat_subs (e : Ex) : e.flat = e.head :: e.subs.flatMap Ex.flat := by
  cases e <;> simp [Ex.flat, Ex.head, Ex.subs, Exs.list_flat]
theorem Ex.subs_ok {e : Ex} {d : Nat} (h : e.ok d) : ∀ s ∈ e.subs, ∃ d', s.ok d' := fun s hs => by
  cases e with
  | leaf n => cases hs
  | one n b r =>
    obtain ⟨_, h4, h5⟩ := h
    rcases List.mem_append.1 hs with hs | hs
    · exact ⟨_, Exs.list_ok b _ h4 s hs⟩
    · rw [List.mem_singleton.1 hs]; exact ⟨_, h5⟩
  | two n l b r =>
    obtain ⟨_, h6, h4, h5⟩ := h
    rcases List.mem_cons.1 hs with rfl | hs
    · exact ⟨_, h6⟩
    rcases List.mem_append.1 hs with hs | hs
    · exact ⟨_, Exs.list_ok b _ h4 s hs⟩
    · rw [List.mem_singleton.1 hs]; exact ⟨_, h5⟩
  | pick n o b =>
    obtain ⟨_, h6, h4⟩ := h
    rcases List.mem_cons.1 hs with rfl | hs
    · exact ⟨_, h6⟩
    · exact ⟨_, Exs.list_ok b _ h4 s hs⟩
theorem right_act {n : Nod} (h : rightN n = true) (ho : ¬ (n.op = 6 ∨ n.op = 7)) : n.aop = 0 := by
  unfold rightN at h
  simp only [Bool.and_eq_true] at h
  have h2 := h.2
  by_cases h8 : n.op = 8
  · rw [if_pos h8] at h2
    simp only [decide_eq_true_eq] at h2
    omega
  · rw [if_neg h8, if_neg ho] at h2
    simp only [decide_eq_true_eq] at h2
    omega
theorem right_n {n : Nod} (h : rightN n = true) : 0 ≤ n.n := by
  unfold rightN at h
  simp only [Bool.and_eq_true] at h
  have h2 := h.2
  split at h2
  · simp only [decide_eq_true_eq] at h2; omega
  · split at h2
    · simp only [Bool.and_eq_true, decide_eq_true_eq] at h2; omega
    · simp only [decide_eq_true_eq] at h2; omega
/-- how many parts are behind a node -/
def cntS (n : Nod) : Int := (if n.op = 6 then 1 else if n.op = 7 then 2 else if n.op = 8 then n.n + 1 else 0) + (if n.aop = 6 then 2 * n.n + 1 else 0)
/-- what is known of the first node, and how many parts there are -/
theorem Ex.subs_n {e : Ex} {d : Nat} (h : e.ok d) : 0 ≤ e.head.n ∧ 1 ≤ e.head.op ∧ e.head.op ≤ 8 ∧ (e.head.aop = 6 → e.head.op = 6 ∨ e.head.op = 7) ∧
    (e.subs.length : Int) = cntS e.head := by
  cases e with
  | leaf n =>
    obtain ⟨h1, h2⟩ := h
    have ha := right_act h1 (by omega)
    have hn := right_n h1
    show 0 ≤ n.n ∧ 1 ≤ n.op ∧ n.op ≤ 8 ∧ (n.aop = 6 → n.op = 6 ∨ n.op = 7) ∧ ((Ex.leaf n).subs.length : Int) = cntS n
    simp only [Ex.subs, List.length_nil, cntS]
    rw [if_neg (by omega), if_neg (by omega), if_neg (by omega), if_neg (by omega)]
    exact ⟨hn, by omega, by omega, by omega, rfl⟩
  | one n b r =>
    obtain ⟨⟨h1, h2, h3, _⟩, h4, h5⟩ := h
    have hn := right_n h1
    show 0 ≤ n.n ∧ 1 ≤ n.op ∧ n.op ≤ 8 ∧ (n.aop = 6 → n.op = 6 ∨ n.op = 7) ∧ ((Ex.one n b r).subs.length : Int) = cntS n
    simp only [Ex.subs, List.length_append, Exs.list_len, List.length_cons, List.length_nil, cntS]
    rw [if_pos h2]
    refine ⟨hn, by omega, by omega, by omega, ?_⟩
    split at h3
    · rename_i h6; rw [if_pos h6]; omega
    · rename_i h6; rw [if_neg h6]; omega
  | two n l b r =>
    obtain ⟨⟨h1, h2, h3, _⟩, h6, h4, h5⟩ := h
    have hn := right_n h1
    show 0 ≤ n.n ∧ 1 ≤ n.op ∧ n.op ≤ 8 ∧ (n.aop = 6 → n.op = 6 ∨ n.op = 7) ∧ ((Ex.two n l b r).subs.length : Int) = cntS n
    simp only [Ex.subs, List.length_append, Exs.list_len, List.length_cons, List.length_nil, cntS]
    rw [if_neg (by omega), if_pos h2]
    refine ⟨hn, by omega, by omega, by omega, ?_⟩
    split at h3
    · rename_i h6; rw [if_pos h6]; omega
    · rename_i h6; rw [if_neg h6]; omega
  | pick n o b =>
    obtain ⟨⟨h1, h2, h3⟩, h6, h4⟩ := h
    have ha := right_act h1 (by omega)
    have hn := right_n h1
    show 0 ≤ n.n ∧ 1 ≤ n.op ∧ n.op ≤ 8 ∧ (n.aop = 6 → n.op = 6 ∨ n.op = 7) ∧ ((Ex.pick n o b).subs.length : Int) = cntS n
    simp only [Ex.subs, Exs.list_len, List.length_cons, cntS]
    rw [if_neg (by omega), if_neg (by omega), if_pos h2, if_neg (by omega)]
    refine ⟨hn, by omega, by omega, by omega, ?_⟩
    omega
end Go.Proofs.YtllgkdkjcbohcaaGreatDoor
namespace Go.Proofs.YtllgkdkjcbohcaaGreatDoor
theorem patch_len (c : List Ins) (k : Nat) (t : Int) : (patch c k t).length = c.length := by simp [patch]
theorem Exs.len_zero : ∀ {b : Exs}, b.len = 0 → b = .nil
  | .nil, _ => rfl
  | .cons _ _, h => by simp [Exs.len] at h
/-- behind a Ret: a place within the code -/
def RetAt (c : List Ins) (t : Int) : Prop := ∃ k : Nat, t = (k : Int) + 1 ∧ k + 1 < c.length ∧ ∃ j, c[k]? = some j ∧ j.op = 11
/-- a function that waits can be made -/
def WOk (w : Wt) : Prop := (∃ d, w.b.ok (d + 1)) ∧ 0 ≤ w.n ∧ w.b.len = 2 * w.n.toNat + 1
theorem actW_ok {n : Nod} {b : Exs} {d pos k : Nat} (h1 : rightN n = true) (h2 : n.op = 6 ∨ n.op = 7) (h3 : b.len = if n.aop = 6 then 2 * n.n.toNat + 1 else 0) (h4 : b.ok (d + 1)) : ∀ w ∈ actW n b pos k, WOk w := fun w hw => by
  unfold actW at hw
  by_cases h : n.aop = 6
  · rw [if_pos h] at hw h3
    simp only [List.mem_singleton] at hw
    subst hw
    refine ⟨⟨d, h4⟩, ?_, h3⟩
    unfold rightN at h1
    simp only [Bool.and_eq_true] at h1
    have h5 := h1.2
    rw [if_neg (by omega), if_pos h2] at h5
    simp only [Bool.and_eq_true, decide_eq_true_eq] at h5
    exact h5.2.1
  · rw [if_neg h] at hw; cases hw
mutual
theorem Ex.waits_ok : ∀ (e : Ex) (d o p : Nat), e.ok d → ∀ w ∈ e.waits o p, WOk w
  | .leaf _, _, _, _, _, w, hw => by cases hw
  | .one n b r, d, o, p, h, w, hw => by
    obtain ⟨⟨h1, h2, h3, _⟩, h4, h5⟩ := h
    rcases List.mem_append.1 hw with hw | hw
    · exact Ex.waits_ok r d _ _ h5 w hw
    · exact actW_ok h1 (.inl h2) h3 h4 w hw
  | .two n l b r, d, o, p, h, w, hw => by
    obtain ⟨⟨h1, h2, h3, _⟩, h6, h4, h5⟩ := h
    rcases List.mem_append.1 hw with hw | hw
    · exact Ex.waits_ok r d _ _ h5 w hw
    · rcases List.mem_append.1 hw with hw | hw
      · exact Ex.waits_ok l d _ _ h6 w hw
      · exact actW_ok h1 (.inr h2) h3 h4 w hw
  | .pick n e b, d, o, p, h, w, hw => by
    obtain ⟨⟨h1, h2, h3⟩, h6, h4⟩ := h
    rcases List.mem_append.1 hw with hw | hw
    · exact Exs.waitsR_ok b d _ _ h4 w hw
    · exact Ex.waits_ok e d _ _ h6 w hw
theorem Exs.waitsR_ok : ∀ (b : Exs) (d o p : Nat), b.ok d → ∀ w ∈ b.waitsR o p, WOk w
  | .nil, _, _, _, _, w, hw => by cases hw
  | .cons e r, d, o, p, h, w, hw => by
    rcases List.mem_append.1 hw with hw | hw
    · exact Exs.waitsR_ok r d _ _ h.2 w hw
    · exact Ex.waits_ok e d _ _ h.1 w hw
end
theorem Exs.funcW_ok : ∀ (b : Exs) (d o p : Nat), b.ok d → ∀ w ∈ b.funcW o p, WOk w
  | .nil, _, _, _, _, w, hw => by cases hw
  | .cons e .nil, d, o, p, h, w, hw => Ex.waits_ok e d _ _ h.1 w hw
  | .cons c (.cons v r), d, o, p, h, w, hw => by
    rcases List.mem_append.1 hw with hw | hw
    · exact Ex.waits_ok c d _ _ h.1 w hw
    · rcases List.mem_append.1 hw with hw | hw
      · exact Ex.waits_ok v d _ _ h.2.1 w hw
      · exact Exs.funcW_ok r d _ _ h.2.2 w hw
/-- the code of an expression, laid at a place: it has no Test; each Call is one of those that wait, or goes to where the function about it begins -/
def SegE (h : Int) (d o : Nat) (cs : List Ins) (ws : List Wt) : Prop := ∀ (i : Nat) (x : Ins), cs[i]? = some x → x.op ≠ 9 ∧ (x.op = 10 → (x.to = h ∧ 0 < d) ∨ ∃ w ∈ ws, w.call = o + i)
theorem SegE.app {h : Int} {d o : Nat} {a b : List Ins} {wa wb : List Wt} (ha : SegE h d o a wa) (hb : SegE h d (o + a.length) b wb) : SegE h d o (a ++ b) (wa ++ wb) := fun i x hx => by
  rw [List.getElem?_append] at hx
  split at hx
  · obtain ⟨h1, h2⟩ := ha i x hx
    refine ⟨h1, fun h => ?_⟩
    rcases h2 h with h | ⟨w, hw, e⟩
    · exact .inl h
    · exact .inr ⟨w, List.mem_append_left _ hw, e⟩
  · obtain ⟨h1, h2⟩ := hb _ x hx
    refine ⟨h1, fun h => ?_⟩
    rcases h2 h with h | ⟨w, hw, e⟩
    · exact .inl h
    · exact .inr ⟨w, List.mem_append_right _ hw, by omega⟩
theorem SegE.one {h : Int} {d o : Nat} {x : Ins} {ws : List Wt} (h1 : x.op ≠ 9) (h2 : x.op = 10 → (x.to = h ∧ 0 < d) ∨ ∃ w ∈ ws, w.call = o) : SegE h d o [x] ws := fun i y hy => by
  cases i with
  | zero => simp at hy; subst hy; exact ⟨h1, h2⟩
  | succ i => simp at hy
theorem segE_act {h : Int} {d o pos : Nat} {n : Nod} {b : Exs} {g : Int} (hg : g = 1 ∨ g = 2) (h7 : n.aop = 7 → 0 < d) : SegE h d o [actI h n g] (actW n b pos o) := by
  unfold actI actW
  by_cases h6 : n.aop = 6
  · rw [if_pos h6, if_pos h6]
    exact SegE.one (by simp [callI]) fun _ => .inr ⟨_, List.mem_singleton.2 rfl, rfl⟩
  · rw [if_neg h6, if_neg h6]
    by_cases h77 : n.aop = 7
    · rw [if_pos h77]; exact SegE.one (by simp [callI]) fun _ => .inl ⟨rfl, h7 h77⟩
    · rw [if_neg h77]; exact SegE.one (by show 5 + g ≠ 9; omega) fun e => by exfalso; have : 5 + g = 10 := e; omega
mutual
theorem Ex.seg : ∀ (e : Ex) (h : Int) (d o p : Nat), e.ok d → SegE h d o (e.code h) (e.waits o p)
  | .leaf n, h, d, o, p, hk => by
    obtain ⟨h1, h2⟩ := hk
    refine SegE.one ?_ ?_
    · unfold leafI; split; · simp
      split; · simp
      split; · simp
      · simp; omega
    · unfold leafI; split; · simp
      split; · simp
      split; · simp
      · simp; omega
  | .one n b r, h, d, o, p, hk => by
    obtain ⟨⟨h1, h2, h3, h7⟩, h4, h5⟩ := hk
    have := Ex.seg r h d o (p + 1 + b.flat.length) h5
    refine this.app ?_
    rw [Ex.code_len h r]
    exact segE_act (.inl rfl) h7
  | .two n l b r, h, d, o, p, hk => by
    obtain ⟨⟨h1, h2, h3, h7⟩, h6, h4, h5⟩ := hk
    refine (Ex.seg r h d o (p + 1 + l.flat.length + b.flat.length) h5).app ?_
    rw [Ex.code_len h r]
    refine (Ex.seg l h d _ (p + 1) h6).app ?_
    rw [Ex.code_len h l]
    exact segE_act (.inr rfl) h7
  | .pick n e b, h, d, o, p, hk => by
    obtain ⟨⟨h1, h2, h3⟩, h6, h4⟩ := hk
    refine (Exs.segR b h d o (p + 1 + e.flat.length) h4).app ?_
    rw [Exs.codeR_len h b]
    have := (Ex.seg e h d (o + (b.codeR 0).length) (p + 1) h6).app (SegE.one (x := pickI n.n) (ws := []) (by simp [pickI]) (by simp [pickI]))
    rwa [List.append_nil] at this
theorem Exs.segR : ∀ (b : Exs) (h : Int) (d o p : Nat), b.ok d → SegE h d o (b.codeR h) (b.waitsR o p)
  | .nil, _, _, _, _, _ => fun i x hx => by simp [Exs.codeR] at hx
  | .cons e r, h, d, o, p, hk => by
    refine (Exs.segR r h d o (p + e.flat.length) hk.2).app ?_
    rw [Exs.codeR_len h r]
    exact Ex.seg e h d _ p hk.1
end
/-- the code of a function, laid at a place: its Tests go behind a Ret in it -/
def SegF (h : Int) (o : Nat) (cs : List Ins) (ws : List Wt) : Prop := ∀ (i : Nat) (x : Ins), cs[i]? = some x →
  (x.op = 9 → ∃ k : Nat, x.to = ((o + k + 1 : Nat) : Int) ∧ i < k ∧ k + 1 < cs.length ∧ ∃ j, cs[k]? = some j ∧ j.op = 11) ∧ (x.op = 10 → x.to = h ∨ ∃ w ∈ ws, w.call = o + i)
theorem Exs.segF : ∀ (b : Exs) (h : Int) (d o p : Nat), b.ok d → b.len % 2 = 1 → SegF h o (b.func h o) (b.funcW o p)
  | .nil, _, _, _, _, _, hl => by simp [Exs.len] at hl
  | .cons e .nil, h, d, o, p, hk, _ => fun i x hx => by
    have hs := Ex.seg e h d o p hk.1
    simp only [Exs.func] at hx ⊢
    rw [List.getElem?_append] at hx
    split at hx
    · obtain ⟨h1, h2⟩ := hs i x hx
      refine ⟨fun h => absurd h h1, fun h => ?_⟩
      rcases h2 h with h | h
      · exact .inl h.1
      · exact .inr h
    · rename_i hi
      generalize i - (e.code h).length = j at hx
      cases j with
      | zero => simp at hx; subst hx; exact ⟨fun h => by simp [retI] at h, fun h => by simp [retI] at h⟩
      | succ j => simp at hx
  | .cons c (.cons v r), h, d, o, p, hk, hl => fun i x hx => by
    have hlr : r.len % 2 = 1 := by simp only [Exs.len] at hl; omega
    have hc := Ex.seg c h d o p hk.1
    have lc := Ex.code_len h c
    have lv := Ex.code_len h v
    simp only [Exs.func, Exs.funcW] at hx ⊢
    rw [← lc, ← lv] at hx ⊢
    have hv := Ex.seg v h d (o + (c.code h).length + 1) (p + c.flat.length) hk.2.1
    have hr := Exs.segF r h d (o + (c.code h).length + 1 + (v.code h).length + 1) (p + c.flat.length + v.flat.length) hk.2.2 hlr
    clear lc lv
    generalize c.code h = cc at *
    generalize v.code h = vv at *
    generalize hrr : r.func h (o + cc.length + 1 + vv.length + 1) = rr at *
    have hrr1 : 1 ≤ rr.length := by
      rw [← hrr]
      cases r with
      | nil => simp [Exs.len] at hlr
      | cons a s => cases s with
        | nil => simp [Exs.func]
        | cons a2 s2 => simp [Exs.func]; omega
    have hmem : ∀ {w}, w ∈ r.funcW (o + cc.length + 1 + vv.length + 1) (p + c.flat.length + v.flat.length) → w ∈ c.waits o p ++ (v.waits (o + cc.length + 1) (p + c.flat.length) ++ r.funcW (o + cc.length + 1 + vv.length + 1) (p + c.flat.length + v.flat.length)) := fun hw => List.mem_append_right _ (List.mem_append_right _ hw)
    by_cases h1 : i < cc.length
    · rw [List.getElem?_append_left h1] at hx
      obtain ⟨q1, q2⟩ := hc i x hx
      refine ⟨fun h => absurd h q1, fun h => ?_⟩
      rcases q2 h with h | ⟨w, hw, e⟩
      · exact .inl h.1
      · exact .inr ⟨w, List.mem_append_left _ hw, e⟩
    rw [List.getElem?_append_right (by omega)] at hx
    obtain ⟨j, hj⟩ : ∃ j, i = cc.length + j := ⟨i - cc.length, by omega⟩
    subst hj
    rw [Nat.add_sub_cancel_left] at hx
    cases j with
    | zero =>
      simp at hx
      subst hx
      refine ⟨fun _ => ⟨cc.length + 1 + vv.length, by simp [testI]; omega, by omega, by simp; omega, retI, ?_, rfl⟩, fun h => by simp [testI] at h⟩
      rw [List.getElem?_append_right (by omega)]
      have : cc.length + 1 + vv.length - cc.length = vv.length + 1 := by omega
      rw [this, List.getElem?_cons_succ, List.getElem?_append_right (Nat.le_refl _), Nat.sub_self]
      rfl
    | succ j =>
      rw [List.getElem?_cons_succ] at hx
      by_cases h2 : j < vv.length
      · rw [List.getElem?_append_left h2] at hx
        obtain ⟨q1, q2⟩ := hv j x hx
        refine ⟨fun h => absurd h q1, fun h => ?_⟩
        rcases q2 h with h | ⟨w, hw, e⟩
        · exact .inl h.1
        · exact .inr ⟨w, List.mem_append_right _ (List.mem_append_left _ hw), by omega⟩
      rw [List.getElem?_append_right (by omega)] at hx
      obtain ⟨k, hk2⟩ : ∃ k, j = vv.length + k := ⟨j - vv.length, by omega⟩
      subst hk2
      rw [Nat.add_sub_cancel_left] at hx
      cases k with
      | zero => simp at hx; subst hx; exact ⟨fun h => by simp [retI] at h, fun h => by simp [retI] at h⟩
      | succ k =>
        rw [List.getElem?_cons_succ] at hx
        obtain ⟨q1, q2⟩ := hr k x hx
        refine ⟨fun h => ?_, fun h => ?_⟩
        · obtain ⟨k2, e1, e2, e3, jj, e4, e5⟩ := q1 h
          refine ⟨cc.length + 1 + vv.length + 1 + k2, by rw [e1]; congr 1; omega, by omega, by simp; omega, jj, ?_, e5⟩
          rw [List.getElem?_append_right (by omega)]
          have : cc.length + 1 + vv.length + 1 + k2 - cc.length = (vv.length + (k2 + 1)) + 1 := by omega
          rw [this, List.getElem?_cons_succ, List.getElem?_append_right (by omega), Nat.add_sub_cancel_left, List.getElem?_cons_succ]
          exact e4
        · rcases q2 h with h | ⟨w, hw, e⟩
          · exact .inl h
          · exact .inr ⟨w, hmem hw, by omega⟩
theorem Exs.func_last (h : Int) : ∀ (b : Exs) (o : Nat), b.len % 2 = 1 → ∃ c', b.func h o = c' ++ [retI]
  | .nil, _, hl => by simp [Exs.len] at hl
  | .cons e .nil, o, _ => ⟨_, rfl⟩
  | .cons c (.cons v r), o, hl => by
    obtain ⟨c', h'⟩ := Exs.func_last h r (o + (c.code 0).length + 1 + (v.code 0).length + 1) (by simp only [Exs.len] at hl; omega)
    refine ⟨c.code h ++ testI ((o + (c.code 0).length + 1 + (v.code 0).length + 1 : Nat) : Int) :: (v.code h ++ retI :: c'), ?_⟩
    simp only [Exs.func, h']
    simp
theorem patch_get {c : List Ins} {k : Nat} {t : Int} {i : Nat} {x : Ins} (h : (patch c k t)[i]? = some x) : ∃ y, c[i]? = some y ∧ ((x = y) ∨ (x = setTo t y ∧ i = k)) := by
  unfold patch at h
  rw [List.getElem?_modify] at h
  cases hc : c[i]? with
  | none => rw [hc] at h; simp at h
  | some y =>
    rw [hc] at h
    simp only [Option.map_eq_map, Option.map_some, Option.some.injEq] at h
    refine ⟨y, rfl, ?_⟩
    by_cases hk : k = i
    · subst hk; simp at h; exact .inr ⟨h.symm, rfl⟩
    · simp [hk] at h; exact .inl h.symm
theorem get_patch {c : List Ins} {k : Nat} {t : Int} {i : Nat} {y : Ins} (h : c[i]? = some y) : ∃ x, (patch c k t)[i]? = some x ∧ x.op = y.op := by
  unfold patch
  rw [List.getElem?_modify, h]
  simp only [Option.map_eq_map, Option.map_some]
  refine ⟨_, rfl, ?_⟩
  split <;> rfl
/-- what holds of code while it is made -/
structure CInv (c : List Ins) (q : List Wt) : Prop where
  last : ∃ c', c = c' ++ [retI]
  test : ∀ (i : Nat) (x : Ins), c[i]? = some x → x.op = 9 → RetAt c x.to ∧ (i : Int) < x.to
  call : ∀ (i : Nat) (x : Ins), c[i]? = some x → x.op = 10 → RetAt c x.to ∨ ∃ w ∈ q, w.call = i
  ok : ∀ w ∈ q, WOk w
theorem RetAt.grow {c : List Ins} {t : Int} (h : RetAt c t) (k : Nat) (t' : Int) (d : List Ins) : RetAt (patch c k t' ++ d) t := by
  obtain ⟨n, h1, h2, j, h3, h4⟩ := h
  obtain ⟨x, hx, hop⟩ := get_patch (k := k) (t := t') h3
  refine ⟨n, h1, by simp [patch_len]; omega, x, ?_, by rw [hop, h4]⟩
  rw [List.getElem?_append_left (by rw [patch_len]; omega)]
  exact hx
theorem CInv.step {c : List Ins} {w : Wt} {q : List Wt} (h : CInv c (w :: q)) : CInv (stepC c w q).1 (stepC c w q).2 := by
  obtain ⟨hl, ht, hc, hk⟩ := h
  obtain ⟨⟨d, hd⟩, hn, hlen⟩ := hk w (List.mem_cons_self ..)
  have hodd : w.b.len % 2 = 1 := by omega
  have hseg := Exs.segF w.b (c.length : Int) (d + 1) c.length w.pos hd hodd
  obtain ⟨f', hf'⟩ := Exs.func_last (c.length : Int) w.b c.length hodd
  obtain ⟨c', hc'⟩ := hl
  have hpos : 1 ≤ (w.b.func c.length c.length).length := by rw [hf']; simp
  have hret : RetAt (patch c w.call c.length ++ w.b.func c.length c.length) (c.length : Int) := by
    have h0 : c[c'.length]? = some retI := by rw [hc']; simp
    have hcl : c.length = c'.length + 1 := by rw [hc']; simp
    obtain ⟨x, hx, hop⟩ := get_patch (k := w.call) (t := (c.length : Int)) h0
    refine ⟨c'.length, by omega, by simp [patch_len]; omega, x, ?_, by rw [hop]; rfl⟩
    rw [List.getElem?_append_left (by rw [patch_len]; omega)]
    exact hx
  simp only [stepC]
  refine ⟨⟨patch c w.call c.length ++ f', by rw [hf', List.append_assoc]⟩, fun i x hx hop => ?_, fun i x hx hop => ?_, fun v hv => ?_⟩
  · by_cases hi : i < c.length
    · rw [List.getElem?_append_left (by rw [patch_len]; exact hi)] at hx
      obtain ⟨y, hy, rfl | ⟨rfl, _⟩⟩ := patch_get hx
      · obtain ⟨r1, r2⟩ := ht i x hy hop
        exact ⟨r1.grow _ _ _, r2⟩
      · exact ⟨hret, by show (i : Int) < (c.length : Int); omega⟩
    · rw [List.getElem?_append_right (by rw [patch_len]; omega), patch_len] at hx
      obtain ⟨k, e1, e2, e3, j, e4, e5⟩ := (hseg _ x hx).1 hop
      refine ⟨⟨c.length + k, by rw [e1]; omega, by simp [patch_len]; omega, j, ?_, e5⟩, by rw [e1]; omega⟩
      rw [List.getElem?_append_right (by rw [patch_len]; omega), patch_len, Nat.add_sub_cancel_left]
      exact e4
  · by_cases hi : i < c.length
    · rw [List.getElem?_append_left (by rw [patch_len]; exact hi)] at hx
      obtain ⟨y, hy, rfl | ⟨rfl, _⟩⟩ := patch_get hx
      · rcases hc i x hy hop with r1 | ⟨v, hv, e⟩
        · exact .inl (r1.grow _ _ _)
        · rcases List.mem_cons.1 hv with rfl | hv
          · -- the one that is done
            subst e
            left
            unfold patch at hx
            rw [List.getElem?_modify, hy] at hx
            simp only [Option.map_eq_map, Option.map_some, Option.some.injEq] at hx
            simp at hx
            rw [← hx]
            exact hret
          · exact .inr ⟨v, List.mem_append_left _ hv, e⟩
      · exact .inl hret
    · rw [List.getElem?_append_right (by rw [patch_len]; omega), patch_len] at hx
      rcases (hseg _ x hx).2 hop with e | ⟨v, hv, e⟩
      · left; rw [e]; exact hret
      · exact .inr ⟨v, List.mem_append_right _ hv, by omega⟩
  · rcases List.mem_append.1 hv with hv | hv
    · exact hk v (List.mem_cons_of_mem _ hv)
    · exact Exs.funcW_ok w.b (d + 1) _ _ hd v hv
end Go.Proofs.YtllgkdkjcbohcaaGreatDoor
namespace Go.Proofs.YtllgkdkjcbohcaaGreatDoor
/-- a function that waits finds its nodes; its Call is there -/
def WAt (l : List Nod) (m : Nat) (w : Wt) : Prop := WOk w ∧ (∃ rest, l.drop w.pos = w.b.flat ++ rest) ∧ w.call < m
theorem WAt.mono {l : List Nod} {m m' : Nat} {w : Wt} (h : WAt l m w) (hm : m ≤ m') : WAt l m' w := ⟨h.1, h.2.1, Nat.lt_of_lt_of_le h.2.2 hm⟩
end Go.Proofs.YtllgkdkjcbohcaaGreatDoor
namespace Go.Proofs.YtllgkdkjcbohcaaGreatDoor
end Go.Proofs.YtllgkdkjcbohcaaGreatDoor
