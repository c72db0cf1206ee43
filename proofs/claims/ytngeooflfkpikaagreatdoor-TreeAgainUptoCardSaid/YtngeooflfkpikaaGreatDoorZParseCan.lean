/-
  What the parser makes: expressions that have just the fields that they may have, of no more nodes than words. Of no program.
-/
import Derived.Test.YtngeooflfkpikaaGreatDoorZParseGood
import Derived.Test.YtngeooflfkpikaaGreatDoorZOps
namespace Go.Proofs.YtngeooflfkpikaaGreatDoor
mutual
/-- just the fields that it may have -/
def Ex.can : Ex → Prop
  | .leaf n => (n.op = 1 ∧ n = ⟨1, 0, 0, 0, 0, n.nums, []⟩ ∧ 0 < n.nums.length ∧ n.nums.length ≤ 200 ∧ ∀ x ∈ n.nums, I64 x) ∨ ((n.op = 2 ∨ n.op = 3) ∧ n = ⟨n.op, 0, 0, 0, 0, [], n.text⟩ ∧ n.text.length ≤ 4294967280) ∨ ((n.op = 4 ∨ n.op = 5) ∧ n = ⟨n.op, 0, 0, 0, 0, [], []⟩)
  | .one n b r => (n.op = 6 ∧ n.nums = [] ∧ n.text = [] ∧ I64 n.aop ∧ I64 n.af ∧ I64 n.ag ∧ I64 n.n) ∧ b.can ∧ r.can
  | .two n l b r => (n.op = 7 ∧ n.nums = [] ∧ n.text = [] ∧ I64 n.aop ∧ I64 n.af ∧ I64 n.ag ∧ I64 n.n) ∧ l.can ∧ b.can ∧ r.can
  | .pick n o b => (n = ⟨8, 0, 0, 0, (b.len : Int), [], []⟩ ∧ 0 < b.len) ∧ o.can ∧ b.can
def Exs.can : Exs → Prop
  | .nil => True
  | .cons e r => e.can ∧ r.can
end
theorem Exs.of_can : ∀ {es : List Ex}, (∀ e ∈ es, e.can) → (Exs.of es).can
  | [], _ => trivial
  | e :: es, h => ⟨h e (by simp), Exs.of_can fun x hx => h x (by simp [hx])⟩
/-- words as they may come in -/
structure TokB (l : List Tok) : Prop where
  len : l.length ≤ 200
  tok : ∀ t ∈ l, I64 t.num ∧ I64 t.fn ∧ t.text.length ≤ 4294967280
theorem TokB.app {a b : List Tok} (h : TokB (a ++ b)) : TokB b := ⟨by have := h.len; rw [List.length_append] at this; omega, fun t ht => h.tok t (List.mem_append.2 (.inr ht))⟩
theorem TokB.good {α : Type} {p : Pars α} (g : Good p) {l r : List Tok} {x : α} (h : TokB l) (hp : p l = .ok (x, r)) : TokB r := by
  obtain ⟨l0, rfl, _⟩ := g.ok _ _ _ hp
  exact h.app
theorem TokB.tail {l : List Tok} (h : TokB l) : TokB l.tail := by
  cases l with
  | nil => exact h
  | cons t r => exact TokB.app (a := [t]) h
def FunE.can (f : FunE) : Prop := I64 f.aop ∧ I64 f.af ∧ I64 f.ag ∧ f.n ≤ 400 ∧ ∀ e ∈ f.body, e.can
def flatL (es : List Ex) : Nat := (es.map fun e => e.flat.length).sum
theorem flatL_app (a b : List Ex) : flatL (a ++ b) = flatL a + flatL b := by simp [flatL]
theorem Exs.of_flatL : ∀ es : List Ex, (Exs.of es).flat.length = flatL es
  | [] => rfl
  | e :: es => by simp [Exs.of, Exs.flat, Exs.of_flatL es, flatL]
structure CanF (f : Nat) : Prop where
  ex : ∀ w l x r, TokB l → exprE f w l = .ok (x, r) → x.can ∧ x.flat.length + r.length ≤ l.length
  at' : ∀ w l x r, TokB l → atomE f w l = .ok (x, r) → x.can ∧ x.flat.length + r.length ≤ l.length
  pk : ∀ w e l x r, TokB l → e.can → picksE f w e l = .ok (x, r) → x.can ∧ x.flat.length + r.length ≤ e.flat.length + l.length
  sm : ∀ w b l x r, TokB l → (∀ e ∈ b, e.can) → semisE f w b l = .ok (x, r) → (∀ e ∈ x, e.can) ∧ flatL x + r.length ≤ flatL b + l.length ∧ b.length ≤ x.length
  fn : ∀ w l x r, TokB l → funE f w l = .ok (x, r) → x.can ∧ flatL x.body + r.length + 1 ≤ l.length
  bd : ∀ w n b l x r, TokB l → (∀ e ∈ b, e.can) → bodyE f w n b l = .ok (x, r) → (∀ e ∈ x.2, e.can) ∧ flatL x.2 + r.length ≤ flatL b + l.length ∧ x.1 + r.length ≤ n + l.length
theorem needT_tok {k : Int} {l r : List Tok} {t : Tok} (h : needT k l = .ok (t, r)) (hb : TokB l) : TokB r ∧ (I64 t.num ∧ I64 t.fn ∧ t.text.length ≤ 4294967280) ∧ r.length + 1 = l.length := by
  obtain ⟨rfl, _⟩ := needT_len h
  exact ⟨TokB.app (a := [t]) hb, hb.tok t (by simp), rfl⟩
theorem flatL_nil : flatL [] = 0 := rfl
theorem flatL_one (e : Ex) : flatL [e] = e.flat.length := by simp [flatL]
theorem canF : ∀ f, CanF f
  | 0 => ⟨fun _ _ _ _ _ h => by simp [exprE] at h, fun _ _ _ _ _ h => by simp [atomE] at h, fun _ _ _ _ _ _ _ h => by simp [picksE] at h, fun _ _ _ _ _ _ _ h => by simp [semisE] at h, fun _ _ _ _ _ h => by simp [funE] at h, fun _ _ _ _ _ _ _ _ h => by simp [bodyE] at h⟩
  | f + 1 => by
    have ih := canF f
    have g := goodF f
    refine ⟨fun w l x r hb h => ?_, fun w l x r hb h => ?_, fun w e l x r hb he h => ?_, fun w b l x r hb hc h => ?_, fun w l x r hb h => ?_, fun w n b l x r hb hc h => ?_⟩
    · rw [exprE] at h
      split at h
      · obtain ⟨⟨f1, r1⟩, h1, h⟩ := bind_ok h
        obtain ⟨⟨e2, r2⟩, h2, h⟩ := bind_ok h
        injection h with h; injection h with ha hb'; subst ha hb'
        obtain ⟨c1, l1⟩ := ih.fn _ _ _ _ hb h1
        obtain ⟨c2, l2⟩ := ih.ex _ _ _ _ (hb.good (g.fn w) h1) h2
        obtain ⟨i1, i2, i3, i4, i5⟩ := c1
        refine ⟨⟨⟨rfl, rfl, rfl, i1, i2, i3, by unfold I64; dsimp only [FunE.node]; omega⟩, Exs.of_can i5, c2⟩, ?_⟩
        show (_ :: ((Exs.of f1.body).flat ++ e2.flat)).length + _ ≤ _
        rw [List.length_cons, List.length_append, Exs.of_flatL]
        try dsimp only at l1 l2 ⊢
        omega
      · obtain ⟨⟨a, r0⟩, h0, h⟩ := bind_ok h
        obtain ⟨⟨e0, r1⟩, h1, h⟩ := bind_ok h
        try dsimp only at h h1
        obtain ⟨c0, l0⟩ := ih.at' _ _ _ _ hb h0
        have hb0 := hb.good (g.at' w) h0
        obtain ⟨c1, l1⟩ := ih.pk _ _ _ _ _ hb0 c0 h1
        have hb1 := hb0.good (g.pk w a) h1
        split at h
        · obtain ⟨⟨f1, r2⟩, h2, h⟩ := bind_ok h
          obtain ⟨⟨e2, r3⟩, h3, h⟩ := bind_ok h
          injection h with h; injection h with ha hb'; subst ha hb'
          obtain ⟨c2, l2⟩ := ih.fn _ _ _ _ hb1 h2
          obtain ⟨c3, l3⟩ := ih.ex _ _ _ _ (hb1.good (g.fn w) h2) h3
          obtain ⟨i1, i2, i3, i4, i5⟩ := c2
          refine ⟨⟨⟨rfl, rfl, rfl, i1, i2, i3, by unfold I64; dsimp only [FunE.node]; omega⟩, c1, Exs.of_can i5, c3⟩, ?_⟩
          have : (Ex.two (f1.node 7) e0 (Exs.of f1.body) e2).flat.length = e0.flat.length + flatL f1.body + e2.flat.length + 1 := by
            simp only [Ex.flat, List.length_cons, List.length_append, Exs.of_flatL]; omega
          rw [this]
          try dsimp only at l0 l1 l2 l3 ⊢
          omega
        · injection h with h; injection h with ha hb'; subst ha hb'
          try dsimp only at l0 l1 c1 ⊢
          exact ⟨c1, by omega⟩
    · rw [atomE] at h
      split at h
      · rename_i hk
        injection h with h; injection h with ha hb'; subst ha hb'
        have hcut : (l.takeWhile isNumK).length + (l.dropWhile isNumK).length = l.length := by rw [← List.length_append, List.takeWhile_append_dropWhile]
        have hpos : 0 < (l.takeWhile isNumK).length := by
          cases l with
          | nil => simp [kindT] at hk
          | cons t r' => rw [List.takeWhile_cons_of_pos (show isNumK t = true from decide_eq_true hk)]; simp
        refine ⟨.inl ⟨rfl, rfl, ?_, ?_, fun n hn => ?_⟩, ?_⟩
        · dsimp only; rw [List.length_map]; exact hpos
        · dsimp only; rw [List.length_map]; have := hb.len; omega
        · obtain ⟨t, ht, rfl⟩ := List.mem_map.1 hn
          exact (hb.tok t ((List.takeWhile_prefix isNumK).subset ht)).1
        · show 1 + _ ≤ _
          omega
      split at h
      · obtain ⟨⟨t, r0⟩, h0, h⟩ := bind_ok h
        injection h with h; injection h with ha hb'; subst ha hb'
        obtain ⟨_, ⟨_, _, h3⟩, hl⟩ := needT_tok h0 hb
        refine ⟨.inr (.inl ⟨.inl rfl, rfl, h3⟩), ?_⟩
        show 1 + _ ≤ _
        try dsimp only
        omega
      split at h
      · obtain ⟨⟨t, r0⟩, h0, h⟩ := bind_ok h
        injection h with h; injection h with ha hb'; subst ha hb'
        obtain ⟨_, ⟨_, _, h3⟩, hl⟩ := needT_tok h0 hb
        refine ⟨.inr (.inl ⟨.inr rfl, rfl, h3⟩), ?_⟩
        show 1 + _ ≤ _
        try dsimp only
        omega
      split at h
      · rename_i hk
        split at h
        · cases h
        · injection h with h; injection h with ha hb'; subst ha hb'
          have : l.tail.length + 1 = l.length := by rcases hk with hk | hk <;> exact tail_lt hk (by decide)
          refine ⟨.inr (.inr ⟨?_, rfl⟩), ?_⟩
          · dsimp only; split
            · exact .inl rfl
            · exact .inr rfl
          · show 1 + _ ≤ _
            omega
      · obtain ⟨⟨t, r0⟩, h0, h⟩ := bind_ok h
        obtain ⟨⟨e1, r1⟩, h1, h⟩ := bind_ok h
        obtain ⟨⟨t2, r2⟩, h2, h⟩ := bind_ok h
        injection h with h; injection h with ha hb'; subst ha hb'
        obtain ⟨hb0, _, hl0⟩ := needT_tok h0 hb
        obtain ⟨c1, l1⟩ := ih.ex _ _ _ _ hb0 h1
        obtain ⟨_, _, hl2⟩ := needT_tok h2 (hb0.good (g.ex w) h1)
        try dsimp only at c1 l1 hl2 ⊢
        exact ⟨c1, by omega⟩
    · rw [picksE] at h
      split at h
      · rename_i hk
        have ht := tail_lt hk (by decide)
        obtain ⟨⟨e1, r1⟩, h1, h⟩ := bind_ok h
        obtain ⟨⟨bs, r2⟩, h2, h⟩ := bind_ok h
        obtain ⟨⟨t3, r3⟩, h3, h⟩ := bind_ok h
        try dsimp only at h h2 h3
        have hb0 := hb.tail
        obtain ⟨c1, l1⟩ := ih.ex _ _ _ _ hb0 h1
        have hb1 := hb0.good (g.ex w) h1
        obtain ⟨c2, l2, n2⟩ := ih.sm _ _ _ _ _ hb1 (fun e he => by obtain rfl : e = e1 := by simpa using he
                                                                   exact c1) h2
        obtain ⟨hb3, _, hl3⟩ := needT_tok h3 (hb1.good (g.sm w _) h2)
        have hlen : (Exs.of bs).len = bs.length := Exs.of_len bs
        have c3 : (Ex.pick ⟨8, 0, 0, 0, (bs.length : Int), [], []⟩ e (Exs.of bs)).can := ⟨⟨by rw [hlen], by rw [hlen]; simp at n2; omega⟩, he, Exs.of_can c2⟩
        obtain ⟨c4, l4⟩ := ih.pk _ _ _ _ _ hb3 c3 h
        refine ⟨c4, ?_⟩
        have : (Ex.pick ⟨8, 0, 0, 0, (bs.length : Int), [], []⟩ e (Exs.of bs)).flat.length = e.flat.length + flatL bs + 1 := by
          simp only [Ex.flat, List.length_cons, List.length_append, Exs.of_flatL]
        rw [this] at l4
        rw [flatL_one] at l2
        omega
      · injection h with h; injection h with ha hb'; subst ha hb'
        exact ⟨he, Nat.le_refl _⟩
    · rw [semisE] at h
      split at h
      · rename_i hk
        have ht := tail_lt hk (by decide)
        obtain ⟨⟨e1, r1⟩, h1, h⟩ := bind_ok h
        try dsimp only at h
        obtain ⟨c1, l1⟩ := ih.ex _ _ _ _ hb.tail h1
        obtain ⟨c2, l2, n2⟩ := ih.sm _ _ _ _ _ (hb.tail.good (g.ex w) h1) (fun e he => by
          rcases List.mem_append.1 he with he | he
          · exact hc e he
          · obtain rfl : e = e1 := by simpa using he
            exact c1) h
        rw [flatL_app, flatL_one] at l2
        rw [List.length_append, List.length_singleton] at n2
        exact ⟨c2, by omega, by omega⟩
      · injection h with h; injection h with ha hb'; subst ha hb'
        exact ⟨hc, Nat.le_refl _, Nat.le_refl _⟩
    · rw [funE] at h
      have hfc : ∀ a b c : Int, I64 a → I64 b → I64 c → FunE.can { aop := a, af := b, ag := c } := fun a b c h1 h2 h3 => ⟨h1, h2, h3, by simp, by simp⟩
      split at h
      · rename_i hk
        have ht := tail_lt hk (by decide)
        obtain ⟨⟨t1, r1⟩, h1, h⟩ := bind_ok h
        obtain ⟨⟨t2, r2⟩, h2, h⟩ := bind_ok h
        injection h with h; injection h with ha hb'; subst ha hb'
        obtain ⟨hb1, _, hl1⟩ := needT_tok h1 hb.tail
        obtain ⟨_, i2, hl2⟩ := needT_tok h2 hb1
        exact ⟨hfc _ _ _ (by simp [I64]) i2.2.1 (by simp [I64]), by simp only [flatL_nil]; simp only at hl1 hl2; omega⟩
      split at h
      · rename_i hk
        have ht := tail_lt hk (by decide)
        injection h with h; injection h with ha hb'; subst ha hb'
        exact ⟨hfc _ _ _ (by simp [I64]) (by simp [I64]) (by simp [I64]), by simp only [flatL_nil]; omega⟩
      split at h
      · rename_i hk
        have ht := tail_lt hk (by decide)
        obtain ⟨⟨x1, r1⟩, h1, h⟩ := bind_ok h
        obtain ⟨⟨t2, r2⟩, h2, h⟩ := bind_ok h
        injection h with h; injection h with ha hb'; subst ha hb'
        obtain ⟨c1, l1, n1⟩ := ih.bd _ _ _ _ _ _ hb.tail (by simp) h1
        obtain ⟨_, i2, hl2⟩ := needT_tok h2 (hb.tail.good (g.bd _ _ _) h1)
        have := hb.len
        rw [flatL_nil] at l1
        try dsimp only at c1 l1 n1 hl2 ⊢
        exact ⟨⟨by simp [I64], by simp [I64], by simp [I64], by dsimp only; omega, c1⟩, by omega⟩
      obtain ⟨⟨t1, r1⟩, h1, h⟩ := bind_ok h
      obtain ⟨hb1, i1, hl1⟩ := needT_tok h1 hb
      try dsimp only at h
      split at h
      · rename_i hk
        have ht := tail_lt hk (by decide)
        injection h with h; injection h with ha hb'; subst ha hb'
        exact ⟨hfc _ _ _ (by simp [I64]) i1.2.1 (by simp [I64]), by simp only [flatL_nil]; omega⟩
      split at h
      · rename_i hk
        have ht := tail_lt hk (by decide)
        obtain ⟨⟨t2, r2⟩, h2, h⟩ := bind_ok h
        injection h with h; injection h with ha hb'; subst ha hb'
        obtain ⟨_, i2, hl2⟩ := needT_tok h2 hb1.tail
        exact ⟨hfc _ _ _ (by simp [I64]) i1.2.1 i2.2.1, by simp only [flatL_nil]; omega⟩
      split at h
      · split at h
        · simp only [List.length_cons] at hl1
          split at h
          · injection h with h; injection h with ha hb'; subst ha hb'
            exact ⟨hfc _ _ _ (by simp [I64]) i1.2.1 (by simp [I64]), by simp only [flatL_nil]; omega⟩
          split at h
          · injection h with h; injection h with ha hb'; subst ha hb'
            exact ⟨hfc _ _ _ (by simp [I64]) i1.2.1 (by simp [I64]), by simp only [flatL_nil]; omega⟩
          · injection h with h; injection h with ha hb'; subst ha hb'
            exact ⟨hfc _ _ _ (by simp [I64]) i1.2.1 (by simp [I64]), by simp only [flatL_nil, List.length_cons]; omega⟩
        · injection h with h; injection h with ha hb'; subst ha hb'
          exact ⟨hfc _ _ _ (by simp [I64]) i1.2.1 (by simp [I64]), by simp only [flatL_nil]; omega⟩
      · injection h with h; injection h with ha hb'; subst ha hb'
        exact ⟨hfc _ _ _ (by simp [I64]) i1.2.1 (by simp [I64]), by simp only [flatL_nil]; omega⟩
    · rw [bodyE] at h
      obtain ⟨⟨e1, r1⟩, h1, h⟩ := bind_ok h
      try dsimp only at h
      obtain ⟨c1, l1⟩ := ih.ex _ _ _ _ hb h1
      have hb1 := hb.good (g.ex w) h1
      have hp := e1.flat_pos
      split at h
      · rename_i hk
        have ht := tail_lt hk (by decide)
        obtain ⟨⟨e2, r2⟩, h2, h⟩ := bind_ok h
        obtain ⟨⟨t3, r3⟩, h3, h⟩ := bind_ok h
        try dsimp only at h h3
        obtain ⟨c2, l2⟩ := ih.ex _ _ _ _ hb1.tail h2
        obtain ⟨hb3, _, hl3⟩ := needT_tok h3 (hb1.tail.good (g.ex w) h2)
        obtain ⟨c4, l4, n4⟩ := ih.bd _ _ _ _ _ _ hb3 (fun e he => by
          rcases List.mem_append.1 he with he | he
          · exact hc e he
          · rcases List.mem_cons.1 he with rfl | he
            · exact c1
            · obtain rfl : e = e2 := by simpa using he
              exact c2) h
        have : flatL [e1, e2] = e1.flat.length + e2.flat.length := by simp [flatL]
        rw [flatL_app, this] at l4
        exact ⟨c4, by omega, by omega⟩
      · injection h with h; injection h with ha hb'; subst ha hb'
        refine ⟨fun e he => ?_, by dsimp only; rw [flatL_app, flatL_one]; omega, by dsimp only; omega⟩
        rcases List.mem_append.1 he with he | he
        · exact hc e he
        · obtain rfl : e = e1 := by simpa using he
          exact c1
end Go.Proofs.YtngeooflfkpikaaGreatDoor
