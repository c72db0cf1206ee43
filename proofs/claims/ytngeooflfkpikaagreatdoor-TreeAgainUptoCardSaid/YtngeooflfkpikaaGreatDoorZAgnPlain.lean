/-
  What is parsed is a tree, of no more words than it was parsed of; the places of words do not matter to the parser. Of no program.
-/
import Derived.Test.YtngeooflfkpikaaGreatDoorZParseCan
import Derived.Test.YtngeooflfkpikaaGreatDoorZPrintPlain
import Derived.Test.YtngeooflfkpikaaGreatDoorZBackPlain
namespace Go.Proofs.YtngeooflfkpikaaGreatDoor
/-- a word that can be spelt alone -/
def TokS (t : Tok) : Prop := (spellF [t]).2 = 0
def TokA (l : List Tok) : Prop := ∀ t ∈ l, TokS t
theorem TokA.app {a b : List Tok} (h : TokA (a ++ b)) : TokA b := fun t ht => h t (List.mem_append.2 (.inr ht))
theorem TokA.good {α : Type} {p : Pars α} (g : Good p) {l r : List Tok} {x : α} (h : TokA l) (hp : p l = .ok (x, r)) : TokA r := by
  obtain ⟨l0, rfl, _⟩ := g.ok _ _ _ hp
  exact h.app
theorem TokA.tail {l : List Tok} (h : TokA l) : TokA l.tail := by
  cases l with
  | nil => exact h
  | cons t r => exact TokA.app (a := [t]) h
theorem spelt_of {t : Tok} (h : TokS t) : (speltF t).2 = 0 := by
  refine Classical.byContradiction fun hn => ?_
  have he : errF [t] = (speltF t).2 := by unfold errF; rw [if_neg hn]
  have : (spellF [t]).2 = (speltF t).2 := by unfold spellF; rw [if_neg (by simp), if_pos (by rw [he]; exact hn)]; exact he
  exact hn (this.symm.trans h)
theorem spell_eqT {t u : Tok} (h : speltF t = speltF u) : spellF [t] = spellF [u] := by
  have e : ∀ t, spellF [t] = (fun p : List UInt8 × Int => if 200 < 1 then ([], 7) else if (if p.2 = 0 then 0 else p.2) ≠ 0 then ([], if p.2 = 0 then 0 else p.2) else if 1000 < (Lib.join [p.1] [32]).length then ([], 7) else (Lib.join [p.1] [32], 0)) (speltF t) := fun t => rfl
  rw [e, e, h]
theorem close_leaf (n : Nod) : closeT (Ex.leaf n).comp (Ex.leaf n).toks = (Ex.leaf n).toks := rfl
theorem catch_zero {n : Nod} {e : Ex} (h : catchE n e = true) : n.aop = 0 := by
  cases e with
  | one m b r => exact (of_decide_eq_true h).1
  | leaf => cases h
  | two => cases h
  | pick => cases h
theorem tokS_bad {t : Tok} (h : TokS t) : badTok t = false := by
  have hs := spelt_of h
  cases hb : badTok t with
  | false => rfl
  | true => unfold speltF at hs; rw [if_pos hb] at hs; simp at hs
theorem tokS_fn {t : Tok} (h : TokS t) (hk : t.kind = 4) : 1 ≤ t.fn ∧ t.fn ≤ 34 := by
  have hs := spelt_of h
  have hb := tokS_bad h
  unfold speltF at hs
  rw [hb, if_neg (by simp), if_neg (by omega), if_neg (by omega), if_neg (by omega), if_pos hk] at hs
  have hg : glyphT t.fn ≠ [] := fun hg => by rw [if_pos hg] at hs; simp at hs
  obtain ⟨i, hi, hgi⟩ := glyphT_some hg
  have := (getD_glyph hgi).1
  omega
theorem tokS_txt {t : Tok} (h : TokS t) (hk : t.kind = 2 ∨ t.kind = 3) : spellOk t.kind t.text = true := by
  have hb := tokS_bad h
  obtain ⟨k, f, n, s, a⟩ := t
  unfold badTok at hb
  have hb := of_decide_eq_false hb
  dsimp only at hk hb ⊢
  obtain ⟨rfl, rfl⟩ : n = 0 ∧ f = 0 := by omega
  have e : spellF [⟨k, 0, 0, s, a⟩] = spellF [⟨k, 0, 0, s, 0⟩] := spell_eqT rfl
  unfold spellOk
  exact decide_eq_true (by rw [← e]; exact h)
def costL (es : List Ex) : Nat := (es.map fun e => e.toks.length + 1).sum
theorem costL_app (a b : List Ex) : costL (a ++ b) = costL a + costL b := by simp [costL]
theorem costL_one (e : Ex) : costL [e] = e.toks.length + 1 := by simp [costL]
theorem semiT_cost : ∀ b : Exs, 0 < b.len → b.semiT.length + 1 = costL b.list
  | .nil, h => absurd h (by simp [Exs.len])
  | .cons e .nil, _ => by simp [Exs.semiT, Exs.list, costL, Exs.len]
  | .cons e (.cons e2 r), _ => by
    have ih := semiT_cost (.cons e2 r) (by simp [Exs.len])
    rw [Exs.semiT, if_neg (by simp [Exs.len]), Exs.list, show ∀ l, costL (e :: l) = e.toks.length + 1 + costL l from fun l => by simp [costL], ← ih]
    simp only [List.length_append, List.length_singleton]
    omega
theorem bodyT_cost : ∀ (b : Exs) (p : Bool), 0 < b.len → (b.bodyT p).length + 1 = costL b.list
  | .nil, _, h => absurd h (by simp [Exs.len])
  | .cons e .nil, _, _ => by simp [Exs.bodyT, Exs.list, costL, Exs.len]
  | .cons e (.cons e2 r), p, _ => by
    have ih := bodyT_cost (.cons e2 r) (!p) (by simp [Exs.len])
    rw [Exs.bodyT, if_neg (by simp [Exs.len]), Exs.list, show ∀ l, costL (e :: l) = e.toks.length + 1 + costL l from fun l => by simp [costL], ← ih]
    cases p <;> simp only [List.length_append, List.length_singleton, if_true, if_false, Bool.false_eq_true] <;> omega
theorem closeT_le {m : Bool} {l : List Tok} {k : Nat} (h1 : l.length ≤ k) (h2 : m = true → l.length + 2 ≤ k) : (closeT m l).length ≤ k := by
  cases m with
  | false => exact h1
  | true => simp [closeT]; have := h2 rfl; omega
theorem Exs.of_ok : ∀ {es : List Ex} {w : Nat}, (∀ e ∈ es, e.ok w) → (Exs.of es).ok w
  | [], _, _ => trivial
  | e :: es, _, h => ⟨h e (by simp), Exs.of_ok fun x hx => h x (by simp [hx])⟩
/-- a function that may be -/
structure FnOk (w : Nat) (x : FunE) : Prop where
  act : actOk x.aop x.af x.ag = true
  n : x.n = 0 ∨ x.aop = 6
  len : x.body.length = if x.aop = 6 then 2 * x.n + 1 else 0
  self : x.aop = 7 → 0 < w
  ok : ∀ e ∈ x.body, e.ok (w + 1)
theorem FnOk.right {w : Nat} {x : FunE} (h : FnOk w x) {op : Int} (ho : op = 6 ∨ op = 7) : rightN (x.node op) = true := by
  unfold rightN FunE.node
  dsimp only
  rw [if_neg (by omega), if_neg (by omega), if_neg (by omega), if_pos ho]
  have h1 : ¬ op = 1 := by omega
  have h2 := h.n
  simp [h1, h.act, h2]
theorem FnOk.len' {w : Nat} {x : FunE} (h : FnOk w x) (op : Int) : (Exs.of x.body).len = (if (x.node op).aop = 6 then 2 * (x.node op).n.toNat + 1 else 0) := by
  rw [Exs.of_len, h.len]
  rfl
structure AgnF (f : Nat) : Prop where
  ex : ∀ w l x r, TokA l → exprE f w l = .ok (x, r) → x.ok w ∧ x.toks.length + r.length ≤ l.length ∧ (∀ n : Nod, catchE n x = true → firstG l = true ∨ x.toks.length + 2 + r.length ≤ l.length)
  at' : ∀ w l x r, TokA l → atomE f w l = .ok (x, r) → x.ok w ∧ (closeT x.comp x.toks).length + r.length ≤ l.length
  pk : ∀ w e l x r, TokA l → e.ok w → picksE f w e l = .ok (x, r) → x.ok w ∧ (closeT x.comp x.toks).length + r.length ≤ (closeT e.comp e.toks).length + l.length
  sm : ∀ w b l x r, TokA l → (∀ e ∈ b, e.ok w) → semisE f w b l = .ok (x, r) → (∀ e ∈ x, e.ok w) ∧ costL x + r.length ≤ costL b + l.length ∧ b.length ≤ x.length
  fn : ∀ w l x r, TokA l → startsT w l = true → funE f w l = .ok (x, r) → FnOk w x ∧ (∀ op, (funT (x.node op) ((Exs.of x.body).bodyT false)).length + r.length ≤ l.length) ∧ (x.aop ≠ 3 → (x.af = 33 ∨ x.af = 34) → firstG l = true) ∧ (x.aop = 0 → firstG r = false)
  bd : ∀ w n b l x r, TokA l → (∀ e ∈ b, e.ok w) → bodyE f w n b l = .ok (x, r) → (∀ e ∈ x.2, e.ok w) ∧ costL x.2 + r.length ≤ costL b + l.length + 1 ∧ ∃ k, x.1 = n + k ∧ x.2.length = b.length + 2 * k + 1
theorem needT_all {k : Int} {l r : List Tok} {t : Tok} (h : needT k l = .ok (t, r)) (hb : TokA l) : l = t :: r ∧ t.kind = k ∧ TokS t ∧ TokA r ∧ r.length + 1 = l.length := by
  obtain ⟨rfl, h2⟩ := needT_len h
  exact ⟨rfl, h2, hb t (by simp), TokA.app (a := [t]) hb, rfl⟩
theorem actOk_f {a f : Int} (ha : a = 0 ∨ a = 1 ∨ a = 2 ∨ a = 3 ∨ a = 5) (hf : 1 ≤ f ∧ f ≤ 34) : actOk a f 0 = true := by
  unfold actOk
  rw [if_pos ha]
  exact decide_eq_true ⟨hf.1, hf.2, rfl⟩
theorem actOk_4 {f g : Int} (hf : 1 ≤ f ∧ f ≤ 34) (hg : 1 ≤ g ∧ g ≤ 34) : actOk 4 f g = true := by
  unfold actOk
  rw [if_neg (by decide), if_pos rfl]
  exact decide_eq_true ⟨hf.1, hf.2, hg.1, hg.2⟩
theorem firstG_kind {l : List Tok} (h : kindT l ≠ 4) : firstG l = false := by
  cases l with
  | nil => rfl
  | cons t r => exact decide_eq_false fun h' => h h'.1
theorem agnF : ∀ f, AgnF f
  | 0 => ⟨fun _ _ _ _ _ h => by simp [exprE] at h, fun _ _ _ _ _ h => by simp [atomE] at h, fun _ _ _ _ _ _ _ h => by simp [picksE] at h, fun _ _ _ _ _ _ _ h => by simp [semisE] at h, fun _ _ _ _ _ _ h => by simp [funE] at h, fun _ _ _ _ _ _ _ _ h => by simp [bodyE] at h⟩
  | f + 1 => by
    have ih := agnF f
    have g := goodF f
    refine ⟨fun w l x r hb h => ?_, fun w l x r hb h => ?_, fun w e l x r hb he h => ?_, fun w b l x r hb hc h => ?_, fun w l x r hb hst h => ?_, fun w n b l x r hb hc h => ?_⟩
    · -- expression
      rw [exprE] at h
      split at h
      · rename_i hst
        obtain ⟨⟨f1, r1⟩, h1, h⟩ := bind_ok h
        obtain ⟨⟨e2, r2⟩, h2, h⟩ := bind_ok h
        injection h with h; injection h with ha hb'; subst ha hb'
        obtain ⟨c1, l1, k1, k2⟩ := ih.fn _ _ _ _ hb hst h1
        obtain ⟨c2, l2, m2⟩ := ih.ex _ _ _ _ (hb.good (g.fn w) h1) h2
        have l1 := l1 6
        try dsimp only at l1 l2 ⊢
        have hcl : (closeT (catchE (f1.node 6) e2) e2.toks).length + r2.length ≤ r1.length := by
          have : (closeT (catchE (f1.node 6) e2) e2.toks).length ≤ r1.length - r2.length := closeT_le (by omega) fun hc => by
            have h0 : f1.aop = 0 := catch_zero hc
            rcases m2 _ hc with h | h
            · rw [k2 h0] at h; cases h
            · omega
          omega
        refine ⟨?_, ?_, fun n hn => .inl ?_⟩
        · unfold Ex.ok
          exact ⟨⟨c1.right (.inl rfl), rfl, c1.len' 6, c1.self⟩, Exs.of_ok c1.ok, c2⟩
        · rw [Ex.toks, List.length_append]
          omega
        · have : n.aop = 0 ∧ f1.aop ≠ 3 ∧ (f1.af = 33 ∨ f1.af = 34) := of_decide_eq_true hn
          exact k1 this.2.1 this.2.2
      · rename_i hst
        obtain ⟨⟨a, r0⟩, h0, h⟩ := bind_ok h
        obtain ⟨⟨e0, r1⟩, h1, h⟩ := bind_ok h
        try dsimp only at h h1
        obtain ⟨c0, l0⟩ := ih.at' _ _ _ _ hb h0
        have hb0 := hb.good (g.at' w) h0
        obtain ⟨c1, l1⟩ := ih.pk _ _ _ _ _ hb0 c0 h1
        have hb1 := hb0.good (g.pk w a) h1
        split at h
        · rename_i hs2
          obtain ⟨⟨f1, r2⟩, h2, h⟩ := bind_ok h
          obtain ⟨⟨e2, r3⟩, h3, h⟩ := bind_ok h
          injection h with h; injection h with ha hb'; subst ha hb'
          obtain ⟨c2, l2, k1, k2⟩ := ih.fn _ _ _ _ hb1 hs2 h2
          obtain ⟨c3, l3, m3⟩ := ih.ex _ _ _ _ (hb1.good (g.fn w) h2) h3
          have l2 := l2 7
          try dsimp only at l0 l1 l2 l3 ⊢
          have hcl : (closeT (catchE (f1.node 7) e2) e2.toks).length + r3.length ≤ r2.length := by
            have : (closeT (catchE (f1.node 7) e2) e2.toks).length ≤ r2.length - r3.length := closeT_le (by omega) fun hc => by
              have h0 : f1.aop = 0 := catch_zero hc
              rcases m3 _ hc with h | h
              · rw [k2 h0] at h; cases h
              · omega
            omega
          refine ⟨?_, ?_, fun n hn => by simp [catchE] at hn⟩
          · unfold Ex.ok
            exact ⟨⟨c2.right (.inr rfl), rfl, c2.len' 7, c2.self⟩, c1, Exs.of_ok c2.ok, c3⟩
          · rw [Ex.toks, List.length_append, List.length_append]
            omega
        · injection h with h; injection h with ha hb'; subst ha hb'
          try dsimp only at l0 l1 c1 ⊢
          have hle : e0.toks.length ≤ (closeT e0.comp e0.toks).length := by cases e0.comp <;> (simp [closeT]; try omega)
          refine ⟨c1, by omega, fun n hn => .inr ?_⟩
          have : e0.comp = true := by cases e0 <;> simp [catchE] at hn; rfl
          rw [this] at l1
          have h2 : (closeT true e0.toks).length = e0.toks.length + 2 := by simp [closeT]
          omega
    · -- atom
      rw [atomE] at h
      split at h
      · rename_i hk
        injection h with h; injection h with ha hb'; subst ha hb'
        have hcut : (l.takeWhile isNumK).length + (l.dropWhile isNumK).length = l.length := by rw [← List.length_append, List.takeWhile_append_dropWhile]
        have hne : (l.takeWhile isNumK).map (·.num) ≠ [] := by
          cases l with
          | nil => simp [kindT] at hk
          | cons t r' => rw [List.takeWhile_cons_of_pos (show isNumK t = true from decide_eq_true hk)]; simp
        refine ⟨⟨?_, .inl rfl⟩, ?_⟩
        · have hd : decide ((l.takeWhile isNumK).map (·.num) ≠ []) = true := decide_eq_true hne
          unfold rightN
          dsimp only
          rw [hd]
          rfl
        · rw [close_leaf, Ex.toks, if_pos (by rfl)]
          simp only [List.length_map]
          omega
      split at h
      · obtain ⟨⟨t, r0⟩, h0, h⟩ := bind_ok h
        injection h with h; injection h with ha hb'; subst ha hb'
        obtain ⟨_, hk, hs, _, hl⟩ := needT_all h0 hb
        have ht := tokS_txt hs (.inl hk)
        rw [hk] at ht
        refine ⟨⟨?_, .inr (.inl rfl)⟩, ?_⟩
        · unfold rightN
          simp [ht]
        · rw [close_leaf, Ex.toks, if_neg (show ¬ (2 : Int) = 1 by decide), if_pos (by rfl), List.length_singleton]
          try dsimp only
          omega
      split at h
      · obtain ⟨⟨t, r0⟩, h0, h⟩ := bind_ok h
        injection h with h; injection h with ha hb'; subst ha hb'
        obtain ⟨_, hk, hs, _, hl⟩ := needT_all h0 hb
        have ht := tokS_txt hs (.inr hk)
        rw [hk] at ht
        refine ⟨⟨?_, .inr (.inr (.inl rfl))⟩, ?_⟩
        · unfold rightN
          simp [ht]
        · rw [close_leaf, Ex.toks, if_neg (show ¬ (3 : Int) = 1 by decide), if_neg (show ¬ (3 : Int) = 2 by decide), if_pos (by rfl), List.length_singleton]
          try dsimp only
          omega
      split at h
      · rename_i hk
        split at h
        · cases h
        · rename_i hw
          injection h with h; injection h with ha hb'; subst ha hb'
          have : l.tail.length + 1 = l.length := by rcases hk with hk | hk <;> exact tail_lt hk (by decide)
          rcases hk with hk | hk
          · rw [if_pos hk]
            refine ⟨⟨by decide, .inr (.inr (.inr ⟨.inl rfl, by omega⟩))⟩, ?_⟩
            show 1 + _ ≤ _
            omega
          · rw [if_neg (by omega)]
            refine ⟨⟨by decide, .inr (.inr (.inr ⟨.inr rfl, by omega⟩))⟩, ?_⟩
            show 1 + _ ≤ _
            omega
      · obtain ⟨⟨t, r0⟩, h0, h⟩ := bind_ok h
        obtain ⟨⟨e1, r1⟩, h1, h⟩ := bind_ok h
        obtain ⟨⟨t2, r2⟩, h2, h⟩ := bind_ok h
        injection h with h; injection h with ha hb'; subst ha hb'
        obtain ⟨_, _, _, hb0, hl0⟩ := needT_all h0 hb
        obtain ⟨c1, l1, _⟩ := ih.ex _ _ _ _ hb0 h1
        obtain ⟨_, _, _, _, hl2⟩ := needT_all h2 (hb0.good (g.ex w) h1)
        try dsimp only at l1 hl0 hl2 c1 ⊢
        have := closeT_len e1.comp e1.toks
        exact ⟨c1, by omega⟩
    · -- indices
      rw [picksE] at h
      split at h
      · rename_i hk
        have hlt := tail_lt hk (by decide)
        obtain ⟨⟨e1, r1⟩, h1, h⟩ := bind_ok h
        obtain ⟨⟨b2, r2⟩, h2, h⟩ := bind_ok h
        obtain ⟨⟨t3, r3⟩, h3, h⟩ := bind_ok h
        have hb1 := hb.tail.good (g.ex w) h1
        obtain ⟨c1, l1, _⟩ := ih.ex _ _ _ _ hb.tail h1
        obtain ⟨c2, l2, n2⟩ := ih.sm _ _ _ _ _ hb1 (fun y hy => by rw [List.mem_singleton.1 hy]; exact c1) h2
        have hb2 := hb1.good (g.sm w [e1]) h2
        obtain ⟨_, _, _, hb3, hl3⟩ := needT_all h3 hb2
        try dsimp only at l1 l2 n2 hl3 h
        rw [costL_one] at l2
        have hlen : 0 < (Exs.of b2).len := by rw [Exs.of_len]; exact n2
        have hok : (Ex.pick ⟨8, 0, 0, 0, b2.length, [], []⟩ e (Exs.of b2)).ok w := by
          unfold Ex.ok
          refine ⟨⟨?_, rfl, ?_⟩, he, Exs.of_ok c2⟩
          · have : (0 : Int) < (b2.length : Int) := by rw [Exs.of_len] at hlen; omega
            simp [rightN]
            omega
          · rw [Exs.of_len]; rfl
        obtain ⟨c3, l3⟩ := ih.pk _ _ _ _ _ hb3 hok h
        have hs := semiT_cost _ hlen
        rw [Exs.of_list] at hs
        have hpt : (closeT (Ex.pick ⟨8, 0, 0, 0, b2.length, [], []⟩ e (Exs.of b2)).comp (Ex.pick ⟨8, 0, 0, 0, b2.length, [], []⟩ e (Exs.of b2)).toks).length = (closeT e.comp e.toks).length + 2 + (Exs.of b2).semiT.length := by
          show ((Ex.pick ⟨8, 0, 0, 0, b2.length, [], []⟩ e (Exs.of b2)).toks).length = _
          rw [Ex.toks]
          simp only [List.length_append, List.length_cons, List.length_nil]
          omega
        exact ⟨c3, by omega⟩
      · injection h with h; injection h with ha hb'; subst ha hb'
        exact ⟨he, Nat.le_refl _⟩
    · -- more indices
      rw [semisE] at h
      split at h
      · rename_i hk
        have hlt := tail_lt hk (by decide)
        obtain ⟨⟨e1, r1⟩, h1, h⟩ := bind_ok h
        have hb1 := hb.tail.good (g.ex w) h1
        obtain ⟨c1, l1, _⟩ := ih.ex _ _ _ _ hb.tail h1
        obtain ⟨c2, l2, n2⟩ := ih.sm _ _ _ _ _ hb1 (fun y hy => by
          rcases List.mem_append.1 hy with hy | hy
          · exact hc y hy
          · rw [List.mem_singleton.1 hy]; exact c1) h
        rw [costL_app, costL_one] at l2
        rw [List.length_append, List.length_singleton] at n2
        try dsimp only at l1 l2
        exact ⟨c2, by omega, by omega⟩
      · injection h with h; injection h with ha hb'; subst ha hb'
        exact ⟨hc, Nat.le_refl _, Nat.le_refl _⟩
    · -- function
      rw [funE] at h
      split at h
      · rename_i hk
        have hlt := tail_lt hk (by decide)
        obtain ⟨⟨t, r0⟩, h0, h⟩ := bind_ok h
        obtain ⟨⟨u, r1⟩, h1, h⟩ := bind_ok h
        injection h with h; injection h with ha hb'; subst ha hb'
        obtain ⟨_, _, _, hb0, hl0⟩ := needT_all h0 hb.tail
        obtain ⟨_, hk1, hs1, _, hl1⟩ := needT_all h1 hb0
        try dsimp only at hl0 hl1 ⊢
        refine ⟨⟨actOk_f (by simp) (tokS_fn hs1 hk1), .inl rfl, rfl, fun h => by simp at h, fun e he => by cases he⟩, fun op => ?_, fun h => absurd rfl h, fun h => by simp at h⟩
        show 3 + _ ≤ _
        omega
      rename_i hk11
      split at h
      · rename_i hk
        have hlt := tail_lt hk (by decide)
        injection h with h; injection h with ha hb'; subst ha hb'
        have hw : 0 < w := by
          unfold startsT at hst
          rw [hk] at hst
          simpa using hst
        refine ⟨⟨by decide, .inl rfl, rfl, fun _ => hw, fun e he => by cases he⟩, fun op => ?_, fun _ h => by simp at h, fun h => by simp at h⟩
        show 1 + _ ≤ _
        omega
      rename_i hk20
      split at h
      · rename_i hk
        have hlt := tail_lt hk (by decide)
        obtain ⟨⟨⟨n1, b1⟩, r0⟩, h0, h⟩ := bind_ok h
        obtain ⟨⟨u, r1⟩, h1, h⟩ := bind_ok h
        injection h with h; injection h with ha hb'; subst ha hb'
        obtain ⟨c0, l0, k, hn, hl⟩ := ih.bd _ _ _ _ _ _ hb.tail (fun e he => by cases he) h0
        obtain ⟨_, _, _, _, hl1⟩ := needT_all h1 (hb.tail.good (g.bd (w + 1) 0 []) h0)
        try dsimp only at c0 l0 hn hl hl1 ⊢
        have hlen : 0 < (Exs.of b1).len := by rw [Exs.of_len]; omega
        have hbt := bodyT_cost _ false hlen
        rw [Exs.of_list] at hbt
        rw [List.length_nil] at hl
        have hc0 : costL [] = 0 := rfl
        refine ⟨⟨(show actOk 6 0 0 = true by decide), .inr rfl, by dsimp only; rw [if_pos rfl]; omega, fun h => by simp at h, c0⟩, fun op => ?_, fun _ h => by simp at h, fun h => by simp at h⟩
        show (tokK 14 :: ((Exs.of b1).bodyT false ++ [tokK 15])).length + _ ≤ _
        simp only [List.length_append, List.length_cons, List.length_nil]
        omega
      rename_i hk14
      obtain ⟨⟨t, r0⟩, h0, h⟩ := bind_ok h
      obtain ⟨hl, hkt, hs0, hb0, hl0⟩ := needT_all h0 hb
      have hf := tokS_fn hs0 hkt
      have hfl : (t.fn = 33 ∨ t.fn = 34) → firstG l = true := fun h => by rw [hl]; exact decide_eq_true ⟨hkt, h⟩
      try dsimp only at h
      split at h
      · rename_i hk
        have hlt := tail_lt hk (by decide)
        injection h with h; injection h with ha hb'; subst ha hb'
        refine ⟨⟨actOk_f (by simp) hf, .inl rfl, rfl, fun h => by simp at h, fun e he => by cases he⟩, fun op => ?_, fun _ => hfl, fun h => by simp at h⟩
        show 2 + _ ≤ _
        omega
      rename_i hk13
      split at h
      · rename_i hk
        have hlt := tail_lt hk (by decide)
        obtain ⟨⟨u, r1⟩, h1, h⟩ := bind_ok h
        injection h with h; injection h with ha hb'; subst ha hb'
        obtain ⟨_, hk1, hs1, _, hl1⟩ := needT_all h1 hb0.tail
        have hf1 := tokS_fn hs1 hk1
        try dsimp only at hl1 ⊢
        refine ⟨⟨actOk_4 hf hf1, .inl rfl, rfl, fun h => by simp at h, fun e he => by cases he⟩, fun op => ?_, fun _ => hfl, fun h => by simp at h⟩
        show 3 + _ ≤ _
        omega
      rename_i hk12
      split at h
      · rename_i hk
        match r0, h, hl0, hk with
        | u :: r, h, hl0, hk =>
          simp only at h
          rw [List.length_cons] at hl0
          split at h
          · injection h with h; injection h with ha hb'; subst ha hb'
            refine ⟨⟨actOk_f (by simp) hf, .inl rfl, rfl, fun h => by simp at h, fun e he => by cases he⟩, fun op => ?_, fun _ => hfl, fun h => by simp at h⟩
            show 2 + _ ≤ _
            omega
          split at h
          · injection h with h; injection h with ha hb'; subst ha hb'
            refine ⟨⟨actOk_f (by simp) hf, .inl rfl, rfl, fun h => by simp at h, fun e he => by cases he⟩, fun op => ?_, fun _ => hfl, fun h => by simp at h⟩
            show 2 + _ ≤ _
            omega
          · rename_i h33 h34
            injection h with h; injection h with ha hb'; subst ha hb'
            refine ⟨⟨actOk_f (by simp) hf, .inl rfl, rfl, fun h => by simp at h, fun e he => by cases he⟩, fun op => ?_, fun _ => hfl, fun _ => decide_eq_false (by omega)⟩
            show 1 + (u :: r).length ≤ _
            rw [List.length_cons]
            omega
        | [], h, hl0, hk => simp [kindT] at hk
      · rename_i hk4
        injection h with h; injection h with ha hb'; subst ha hb'
        refine ⟨⟨actOk_f (by simp) hf, .inl rfl, rfl, fun h => by simp at h, fun e he => by cases he⟩, fun op => ?_, fun _ => hfl, fun _ => firstG_kind hk4⟩
        show 1 + _ ≤ _
        omega
    · -- what is written out
      rw [bodyE] at h
      obtain ⟨⟨e1, r1⟩, h1, h⟩ := bind_ok h
      have hb1 := hb.good (g.ex w) h1
      obtain ⟨c1, l1, _⟩ := ih.ex _ _ _ _ hb h1
      try dsimp only at h
      split at h
      · rename_i hk
        have hlt := tail_lt hk (by decide)
        obtain ⟨⟨e2, r2⟩, h2, h⟩ := bind_ok h
        obtain ⟨⟨t3, r3⟩, h3, h⟩ := bind_ok h
        have hb2 := hb1.tail.good (g.ex w) h2
        obtain ⟨c2, l2, _⟩ := ih.ex _ _ _ _ hb1.tail h2
        obtain ⟨_, _, _, hb3, hl3⟩ := needT_all h3 hb2
        obtain ⟨c4, l4, k, hn, hl⟩ := ih.bd _ _ _ _ _ _ hb3 (fun y hy => by
          rcases List.mem_append.1 hy with hy | hy
          · exact hc y hy
          · rcases List.mem_cons.1 hy with rfl | hy
            · exact c1
            · rw [List.mem_singleton.1 hy]; exact c2) h
        have e1' : costL [e1, e2] = e1.toks.length + 1 + (e2.toks.length + 1) := by simp [costL]
        rw [costL_app, e1'] at l4
        rw [List.length_append, show [e1, e2].length = 2 from rfl] at hl
        try dsimp only at l1 l2 hl3 hn
        exact ⟨c4, by omega, k + 1, by omega, by omega⟩
      · injection h with h; injection h with ha hb'; subst ha hb'
        try dsimp only at l1 ⊢
        refine ⟨fun y hy => ?_, ?_, 0, by omega, by simp⟩
        · rcases List.mem_append.1 hy with hy | hy
          · exact hc y hy
          · rw [List.mem_singleton.1 hy]; exact c1
        · rw [costL_app, costL_one]
          omega
end Go.Proofs.YtngeooflfkpikaaGreatDoor
