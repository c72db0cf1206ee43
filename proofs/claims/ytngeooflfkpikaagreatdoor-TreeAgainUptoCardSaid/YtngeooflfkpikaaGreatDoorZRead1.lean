/-
  A line that is parsed is a tree; it is printed of no more words, which spell, are read and parsed again. Of no program but for what Parse and Print tell.
  tree: are nodes a tree?
  lex.reader: rest, while, number.
-/
import Derived.Test.YtngeooflfkpikaaGreatDoorZAgnPlain
import Derived.Test.YtngeooflfkpikaaGreatDoorZPrtA
import Derived.Test.YtngeooflfkpikaaGreatDoorZGo
import Derived.Test.YtngeooflfkpikaaGreatDoorZTree4
import Derived.Test.YtngeooflfkpikaaGreatDoorZAnyL
import Derived.Test.YtngeooflfkpikaaGreatDoorZLex3
import Derived.Test.YtngeooflfkpikaaGreatDoorZReadPlain
namespace Go.Proofs.YtngeooflfkpikaaGreatDoor
def bareL (l : List Tok) : List Tok := l.map bareT
def mapP {α : Type} : Except Nat (α × List Tok) → Except Nat (α × List Tok)
  | .ok x => .ok (x.1, bareL x.2)
  | .error e => .error e
theorem bm {α β : Type} {x : Except Nat (α × List Tok)} {g g' : α × List Tok → Except Nat (β × List Tok)} (h : ∀ a r, g (a, bareL r) = mapP (g' (a, r))) : (mapP x).bind g = mapP (x.bind g') := by
  cases x with
  | ok y => exact h y.1 y.2
  | error e => rfl
theorem kindT_bare (l : List Tok) : kindT (bareL l) = kindT l := by cases l <;> rfl
theorem startsT_bare (w : Nat) (l : List Tok) : startsT w (bareL l) = startsT w l := by unfold startsT; rw [kindT_bare]
theorem tail_bare (l : List Tok) : (bareL l).tail = bareL l.tail := by cases l <;> rfl
theorem len_bare (l : List Tok) : (bareL l).length = l.length := List.length_map _
theorem tw_bare : ∀ l : List Tok, ((bareL l).takeWhile isNumK).map (·.num) = (l.takeWhile isNumK).map (·.num)
  | [] => rfl
  | t :: r => by
    show ((bareT t :: bareL r).takeWhile isNumK).map (·.num) = _
    have hb : isNumK (bareT t) = isNumK t := rfl
    cases hn : isNumK t with
    | true => rw [List.takeWhile_cons_of_pos (hb.trans hn), List.takeWhile_cons_of_pos hn, List.map_cons, List.map_cons, tw_bare r]; rfl
    | false => rw [List.takeWhile_cons_of_neg (by rw [hb, hn]; simp), List.takeWhile_cons_of_neg (by rw [hn]; simp)]
theorem dw_bare : ∀ l : List Tok, (bareL l).dropWhile isNumK = bareL (l.dropWhile isNumK)
  | [] => rfl
  | t :: r => by
    show (bareT t :: bareL r).dropWhile isNumK = _
    have hb : isNumK (bareT t) = isNumK t := rfl
    cases hn : isNumK t with
    | true => rw [List.dropWhile_cons_of_pos (hb.trans hn), List.dropWhile_cons_of_pos hn, dw_bare r]
    | false => rw [List.dropWhile_cons_of_neg (by rw [hb, hn]; simp), List.dropWhile_cons_of_neg (by rw [hn]; simp)]; rfl
/-- of a word that is needed only what it says is used -/
theorem bn {α : Type} (k : Int) (l : List Tok) {g g' : Tok × List Tok → Except Nat (α × List Tok)} (h : ∀ t r, l = t :: r → g (bareT t, bareL r) = mapP (g' (t, r))) : (needT k (bareL l)).bind g = mapP ((needT k l).bind g') := by
  cases l with
  | nil => rfl
  | cons t r =>
    show (if t.kind = k then Except.ok (bareT t, bareL r) else .error ((bareL r).length + 1)).bind g = mapP ((if t.kind = k then Except.ok (t, r) else .error (r.length + 1)).bind g')
    rw [len_bare]
    split
    · exact h t r rfl
    · rfl
theorem bi {α : Type} {c : Prop} [Decidable c] {x y x' y' : Except Nat (α × List Tok)} (h1 : x = mapP x') (h2 : y = mapP y') : (if c then x else y) = mapP (if c then x' else y') := by
  split
  · exact h1
  · exact h2
structure BarF (f : Nat) : Prop where
  ex : ∀ w l, exprE f w (bareL l) = mapP (exprE f w l)
  at' : ∀ w l, atomE f w (bareL l) = mapP (atomE f w l)
  pk : ∀ w e l, picksE f w e (bareL l) = mapP (picksE f w e l)
  sm : ∀ w b l, semisE f w b (bareL l) = mapP (semisE f w b l)
  fn : ∀ w l, funE f w (bareL l) = mapP (funE f w l)
  bd : ∀ w n b l, bodyE f w n b (bareL l) = mapP (bodyE f w n b l)
theorem barF : ∀ f, BarF f
  | 0 => by
    refine ⟨fun w l => ?_, fun w l => ?_, fun w e l => ?_, fun w b l => ?_, fun w l => ?_, fun w n b l => ?_⟩
    · rw [exprE, exprE, len_bare]; rfl
    · rw [atomE, atomE, len_bare]; rfl
    · rw [picksE, picksE, len_bare]; rfl
    · rw [semisE, semisE, len_bare]; rfl
    · rw [funE, funE, len_bare]; rfl
    · rw [bodyE, bodyE, len_bare]; rfl
  | f + 1 => by
    have ih := barF f
    refine ⟨fun w l => ?_, fun w l => ?_, fun w e l => ?_, fun w b l => ?_, fun w l => ?_, fun w n b l => ?_⟩
    · rw [exprE, exprE, startsT_bare]
      refine bi ?_ ?_
      · rw [ih.fn]
        refine bm fun a r => ?_
        dsimp only
        rw [ih.ex]
        exact bm fun _ _ => rfl
      · rw [ih.at']
        refine bm fun a r => ?_
        dsimp only
        rw [ih.pk]
        refine bm fun e r => ?_
        dsimp only
        rw [startsT_bare]
        refine bi ?_ rfl
        rw [ih.fn]
        refine bm fun a r => ?_
        dsimp only
        rw [ih.ex]
        exact bm fun _ _ => rfl
    · rw [atomE, atomE, kindT_bare, tw_bare, dw_bare]
      refine bi rfl (bi (bn _ _ fun _ _ _ => rfl) (bi (bn _ _ fun _ _ _ => rfl) (bi ?_ (bn _ _ fun t r _ => ?_))))
      · rw [len_bare, tail_bare]
        exact bi rfl rfl
      · dsimp only
        rw [ih.ex]
        refine bm fun e r => ?_
        dsimp only
        exact bn _ _ fun _ _ _ => rfl
    · rw [picksE, picksE, kindT_bare, tail_bare]
      refine bi ?_ rfl
      rw [ih.ex]
      refine bm fun a r => ?_
      dsimp only
      rw [ih.sm]
      refine bm fun b r => ?_
      dsimp only
      exact bn _ _ fun t r _ => ih.pk _ _ _
    · rw [semisE, semisE, kindT_bare, tail_bare]
      refine bi ?_ rfl
      rw [ih.ex]
      exact bm fun a r => ih.sm _ _ _
    · rw [funE, funE, kindT_bare, tail_bare]
      refine bi ?_ (bi rfl (bi ?_ ?_))
      · refine bn _ _ fun t r _ => ?_
        dsimp only
        exact bn _ _ fun _ _ _ => rfl
      · rw [ih.bd]
        refine bm fun a r => ?_
        dsimp only
        exact bn _ _ fun _ _ _ => rfl
      · refine bn _ _ fun t r _ => ?_
        dsimp only
        rw [kindT_bare, tail_bare]
        refine bi rfl (bi (bn _ _ fun _ _ _ => rfl) (bi ?_ rfl))
        cases r with
        | nil => rfl
        | cons u r =>
          show (if u.fn = 33 then _ else if u.fn = 34 then _ else _) = mapP (if u.fn = 33 then _ else if u.fn = 34 then _ else _)
          exact bi rfl (bi rfl rfl)
    · rw [bodyE, bodyE, ih.ex]
      refine bm fun a r => ?_
      dsimp only
      rw [kindT_bare, tail_bare]
      refine bi ?_ rfl
      rw [ih.ex]
      refine bm fun b r => ?_
      dsimp only
      exact bn _ _ fun t r _ => ih.bd _ _ _ _
theorem exP_bare (w : Nat) (l : List Tok) : exP w (bareL l) = mapP (exP w l) := by
  unfold exP
  rw [len_bare]
  exact (barF _).ex w l
theorem linP_bare (l : List Tok) : linP (bareL l) = mapP (linP l) := by
  match l with
  | [] =>
    show (exP 0 (bareL [])).bind _ = mapP ((exP 0 []).bind _)
    rw [exP_bare]
    exact bm fun _ _ => rfl
  | [t] =>
    show (exP 0 (bareL [t])).bind _ = mapP ((exP 0 [t]).bind _)
    rw [exP_bare]
    exact bm fun _ _ => rfl
  | t :: u :: r =>
    show (if t.kind = 3 ∧ u.kind = 10 then (exP 0 (bareL r)).bind _ else (exP 0 (bareL (t :: u :: r))).bind _) = mapP (if t.kind = 3 ∧ u.kind = 10 then (exP 0 r).bind _ else (exP 0 (t :: u :: r)).bind _)
    rw [exP_bare, exP_bare]
    exact bi (bm fun _ _ => rfl) (bm fun _ _ => rfl)
theorem mapP_nil {α : Type} {x : Except Nat (α × List Tok)} {a : α} (h : mapP x = .ok (a, [])) : x = .ok (a, []) := by
  cases x with
  | error e => cases h
  | ok y =>
    obtain ⟨b, r⟩ := y
    injection h with h
    injection h with h1 h2
    cases r with
    | nil => exact congrArg (fun z => Except.ok (z, [])) h1
    | cons t r => cases h2
theorem spell_bare (t : Tok) : (spellF [bareT t]).2 = (spellF [t]).2 := by
  have e : spellF [bareT t] = spellF [t] := spell_eqT rfl
  rw [e]
/-- where the places of words are others it is the same tree -/
theorem parse_bare {L M : List Tok} {ns : List Nod} (h : parseF L = (0, 0, ns)) (hm : M.map bareT = L.map bareT) : parseF M = (0, 0, ns) := by
  obtain ⟨h1, h2, x, h3, h4, _⟩ := parse_ok h
  have hl : M.length = L.length := by have := congrArg List.length hm; simpa using this
  have hx : linP (bareL M) = .ok (x, []) := by
    show linP (M.map bareT) = _
    rw [hm]
    have := linP_bare L
    rw [h3] at this
    exact this
  rw [linP_bare] at hx
  rw [← h4]
  refine parse_of (by omega) (fun t ht => ?_) (mapP_nil hx)
  have hb : bareT t ∈ L.map bareT := by rw [← hm]; exact List.mem_map_of_mem ht
  obtain ⟨u, hu, he⟩ := List.mem_map.1 hb
  rw [← spell_bare t, ← he, spell_bare]
  exact h2 u hu
mutual
theorem Ex.can_nums : ∀ e : Ex, e.can → ∀ n ∈ e.flat, n.nums.length ≤ 200
  | .leaf n, h, m, hm => by
    rw [List.mem_singleton.1 hm]
    rcases h with ⟨_, _, _, h, _⟩ | ⟨_, h, _⟩ | ⟨_, h⟩
    · exact h
    · rw [h]; simp
    · rw [h]; simp
  | .one n b r, h, m, hm => by
    unfold Ex.can at h
    rw [Ex.flat] at hm
    rcases List.mem_cons.1 hm with rfl | hm
    · rw [h.1.2.1]; simp
    rcases List.mem_append.1 hm with hm | hm
    · exact Exs.can_nums b h.2.1 m hm
    · exact Ex.can_nums r h.2.2 m hm
  | .two n l b r, h, m, hm => by
    unfold Ex.can at h
    rw [Ex.flat] at hm
    rcases List.mem_cons.1 hm with rfl | hm
    · rw [h.1.2.1]; simp
    rcases List.mem_append.1 hm with hm | hm
    · exact Ex.can_nums l h.2.1 m hm
    rcases List.mem_append.1 hm with hm | hm
    · exact Exs.can_nums b h.2.2.1 m hm
    · exact Ex.can_nums r h.2.2.2 m hm
  | .pick n o b, h, m, hm => by
    unfold Ex.can at h
    rw [Ex.flat] at hm
    rcases List.mem_cons.1 hm with rfl | hm
    · rw [h.1.1]; simp
    rcases List.mem_append.1 hm with hm | hm
    · exact Ex.can_nums o h.2.1 m hm
    · exact Exs.can_nums b h.2.2 m hm
theorem Exs.can_nums : ∀ b : Exs, b.can → ∀ n ∈ b.flat, n.nums.length ≤ 200
  | .nil, _, m, hm => by simp [Exs.flat] at hm
  | .cons e r, h, m, hm => by
    unfold Exs.can at h
    rw [Exs.flat] at hm
    rcases List.mem_append.1 hm with hm | hm
    · exact Ex.can_nums e h.1 m hm
    · exact Exs.can_nums r h.2 m hm
end
theorem parse_nums {L : List Tok} {ns : List Nod} {a : Int} (hB : ∀ t ∈ L, I64 t.num ∧ I64 t.fn ∧ t.text.length ≤ 4294967280) (h : parseF L = (0, a, ns)) : ∀ n ∈ ns, n.nums.length ≤ 200 := by
  obtain ⟨h1, h2, x, h3, h4, _⟩ := parse_ok h
  have key : ∀ l e r, TokB l → exP 0 l = .ok (e, r) → ∀ n ∈ e.flat, n.nums.length ≤ 200 := fun l e r hb he => Ex.can_nums e ((canF _).ex _ _ _ _ hb he).1
  have hT : TokB L := ⟨h1, hB⟩
  have out : (exP 0 L).bind (fun x => .ok ((none, x.1), x.2)) = .ok (x, []) → ∀ n ∈ ns, n.nums.length ≤ 200 := fun h3 => by
    obtain ⟨⟨e, r⟩, he, h3⟩ := bind_ok h3
    injection h3 with h3
    injection h3 with h5 h6
    have := key L e r hT he
    rw [← h4, ← h5]
    exact this
  match L, h3, hT, out with
  | [], h3, _, out => exact out h3
  | [t], h3, _, out => exact out h3
  | t :: u :: r, h3, hT, out =>
    change (if t.kind = 3 ∧ u.kind = 10 then (exP 0 r).bind _ else (exP 0 (t :: u :: r)).bind _) = _ at h3
    split at h3
    · obtain ⟨⟨e, r'⟩, he, h3⟩ := bind_ok h3
      injection h3 with h3
      injection h3 with h5 h6
      have := key r e r' (TokB.app (a := [t, u]) hT) he
      intro n hn
      rw [← h4, ← h5] at hn
      rcases List.mem_cons.1 hn with rfl | hn
      · simp
      · exact this n hn
    · exact out h3
/-- what is parsed is a tree, of no more words -/
theorem agn_ex {l : List Tok} {e : Ex} (hA : TokA l) (hB : TokB l) (h : exP 0 l = .ok (e, [])) : e.ok 0 ∧ e.toks.length ≤ l.length ∧ e.flat.length ≤ l.length ∧ ∃ n r, e.flat = n :: r ∧ n.op ≠ 9 := by
  obtain ⟨h1, h2, _⟩ := (agnF _).ex _ _ _ _ hA h
  obtain ⟨_, h3⟩ := (canF _).ex _ _ _ _ hB h
  refine ⟨h1, h2, h3, e.head, _, e.flat_subs, ?_⟩
  have := (Ex.subs_n h1).2.2.1
  omega
theorem agn_line {L : List Tok} {ns : List Nod} {a : Int} (hB : ∀ t ∈ L, I64 t.num ∧ I64 t.fn ∧ t.text.length ≤ 4294967280) (hN : ∀ n ∈ ns, NumsP n) (h : parseF L = (0, a, ns)) :
    treeF ns = 0 ∧ ∃ us, printF ns = (0, us) ∧ us.length ≤ L.length ∧ (∀ u ∈ us, (spellF [u]).2 = 0) ∧ parseF us = (0, 0, ns) := by
  obtain ⟨h1, h2, x, h3, h4, _⟩ := parse_ok h
  have hA : TokA L := h2
  have hT : TokB L := ⟨h1, hB⟩
  have key : ∀ t : Option Nod × Ex, treeG ns = some t → (toksL t).length ≤ L.length → ns.length ≤ 400 → treeF ns = 0 ∧ ∃ us, printF ns = (0, us) ∧ us.length ≤ L.length ∧ (∀ u ∈ us, (spellF [u]).2 = 0) ∧ parseF us = (0, 0, ns) := fun t k1 k2 k3 => by
    have hF : treeF ns = 0 := by unfold treeF; rw [if_neg (by omega), k1]; rfl
    obtain ⟨_, _, _, k5⟩ := back_line k1 hN
    have hP : printF ns = (0, toksL t) := by
      unfold printF
      rw [if_pos hF, k1]
      simp only
      rw [if_neg (by omega)]
    exact ⟨hF, toksL t, hP, k2, fun u hu => (k5 u hu).1, (print_back hP hN).1⟩
  have one : ∀ e, exP 0 L = .ok (e, []) → x = (none, e) → treeF ns = 0 ∧ ∃ us, printF ns = (0, us) ∧ us.length ≤ L.length ∧ (∀ u ∈ us, (spellF [u]).2 = 0) ∧ parseF us = (0, 0, ns) := fun e he hx => by
    obtain ⟨k1, k2, k3, n, r, k4, k5⟩ := agn_ex hA hT he
    have hns : ns = e.flat := by rw [← h4, hx]; rfl
    refine key (none, e) ?_ k2 (by rw [hns]; omega)
    rw [hns, k4, treeG_cons, if_neg (fun hh => k5 hh.1), ← k4, (exF_iff (d := 0) (l := e.flat) (r := []) (e := e)).2 ⟨k1, by rw [List.append_nil]⟩]
  have out : (exP 0 L).bind (fun x => .ok ((none, x.1), x.2)) = .ok (x, []) → treeF ns = 0 ∧ ∃ us, printF ns = (0, us) ∧ us.length ≤ L.length ∧ (∀ u ∈ us, (spellF [u]).2 = 0) ∧ parseF us = (0, 0, ns) := fun h3 => by
    obtain ⟨⟨e, r⟩, he, h3⟩ := bind_ok h3
    injection h3 with h3
    injection h3 with h5 h6
    try dsimp only at h6
    subst h6
    exact one e he h5.symm
  match L, h3, hA, hT, key, out with
  | [], h3, _, _, _, out => exact out h3
  | [t], h3, _, _, _, out => exact out h3
  | t :: u :: r, h3, hA, hT, key, out =>
    change (if t.kind = 3 ∧ u.kind = 10 then (exP 0 r).bind _ else (exP 0 (t :: u :: r)).bind _) = _ at h3
    split at h3
    · rename_i hk
      obtain ⟨⟨e, r'⟩, he, h3⟩ := bind_ok h3
      injection h3 with h3
      injection h3 with h5 h6
      try dsimp only at h6
      subst h6
      obtain ⟨k1, k2, k3, _⟩ := agn_ex (TokA.app (a := [t, u]) hA) (TokB.app (a := [t, u]) hT) he
      have hns : ns = ⟨9, 0, 0, 0, 0, [], t.text⟩ :: e.flat := by rw [← h4, ← h5]; rfl
      have ht := tokS_txt (hA t (by simp)) (.inr hk.1)
      rw [hk.1] at ht
      have hr : rightN ⟨9, 0, 0, 0, 0, [], t.text⟩ = true := by
        unfold rightN
        simp [ht]
      have hl := hT.len
      simp only [List.length_cons] at hl
      refine key (some ⟨9, 0, 0, 0, 0, [], t.text⟩, e) ?_ ?_ (by rw [hns, List.length_cons]; omega)
      · rw [hns, treeG_cons, if_pos ⟨rfl, hr⟩, (exF_iff (d := 0) (l := e.flat) (r := []) (e := e)).2 ⟨k1, by rw [List.append_nil]⟩]
      · show (_ :: _ :: e.toks).length ≤ _
        simp only [List.length_cons]
        omega
    · exact out h3
end Go.Proofs.YtngeooflfkpikaaGreatDoor
namespace Go.Proofs.YtngeooflfkpikaaGreatDoor
open Go.RowKit
theorem tree_Check (p : Option Addr) (c : Nat) (L : List NodM) (u0 : World) (hR : Row nodE 7 u0.cell? p c L) (hB : ∀ x ∈ L, NodG u0.cell? x) (hG : GlobA u0) :
    Calls Tryz.prog 15 #[.slice p L.length c] u0 fun e w' => e = .returned (errV 24 (treeF (L.map NodM.nod))) ∧ Below u0.heap.size u0 w' := by
  refine enterR (G := u0.cell?) (args := [_]) (m := []) (F := []) (Rd.sub_cell u0) rfl Tryz.func15 rfl Tryz.ntmps15 (by simp) ?_
  have hread : ∀ W : World, Below u0.heap.size u0 W → Calls Tryz.prog 38 #[.slice p L.length c] W fun e w' => ∃ v : Value, True ∧ e = .returned (.tuple #[v, errV 24 (treeF (L.map NodM.nod))]) ∧ Holds W [] [] w' := fun W hW => by
    have hle : Rd.le u0.cell? W.cell? := fun a v e => (hW.cell (cell_lt e)).trans e
    refine (tree_read p c L W (hR.mono hle) (fun x hx => (hB x hx).mono hle) (hG.below hW)).mono ?_
    rintro e w' (⟨z, ⟨h1, h2, h3⟩, rfl, _, hh⟩ | ⟨h1, rfl, hb⟩)
    · have h0 : treeF (L.map NodM.nod) = 0 := by unfold treeF; rw [List.length_map, if_neg (by omega), h1]; rfl
      exact ⟨z.2.2, trivial, by rw [h0, errV_zero], hh.ent Ent.nil⟩
    · exact ⟨.nilIface, trivial, rfl, ⟨Keep.ofBelow hb, [], rfl, by simp⟩⟩
  (repeat' (first|refine zza ?_|refine zc9 ?_|refine zzb fun w hw => ?_|refine zzh fun _ => ?_|refine zzi fun _ _ => ?_|refine zzj (fun _ => ?_) fun _ => ?_))
  (apply WL_callX; rfl; rfl; rfl; (intro W hW; exact hread W hW.below); intro _ _)
  (repeat' (first|refine zza ?_|refine zc9 ?_|refine zzb fun w hw => ?_|refine zzh fun _ => ?_|refine zzi fun _ _ => ?_|refine zzj (fun _ => ?_) fun _ => ?_))
  exact ⟨rfl, hw.below⟩
end Go.Proofs.YtngeooflfkpikaaGreatDoor
namespace Go.Proofs.YtngeooflfkpikaaGreatDoor
open Go.RowKit
/-- a reader's cells -/
abbrev rdC (src : List UInt8) (pos : Nat) (ws : Value) : Array Value := #[.string ⟨src.toArray⟩, .int .i64 (pos : Int), ws]
abbrev rdr (b : Nat) (src : List UInt8) (pos : Nat) (ws : Value) : HP := blk b 114 (rdC src pos ws)
theorem lex_rest (b : Nat) (src : List UInt8) (pos : Nat) (ws : Value) (w : World) (hb : w.heap[b]? = some (.cells (rdC src pos ws) 114 (0, 0))) (hp : pos ≤ src.length) :
    Calls Tryz.prog 107 #[.pointer (some ⟨b, 0, none⟩)] w fun e w' => e = .returned (.string ⟨(src.drop pos).toArray⟩) ∧ Below w.heap.size w w' := by
  refine enter (args := [_]) (m := [rdr b src pos ws]) (F := [b]) Tryz.func107 rfl Tryz.ntmps107 (by simp) (Own.blk hb) ?_
  (repeat' (first|refine zza ?_|refine zc9 ?_|refine zzb fun w hw => ?_|refine zzh fun _ => ?_|refine zzi fun _ _ => ?_|refine zzj (fun _ => ?_) fun _ => ?_))
  exact ⟨rfl, hw.same .here hb⟩
theorem lex_blank (b : UInt8) (w : World) : Calls Tryz.prog 106 #[.int .u8 (b.toNat : Int)] w fun e w' => e = .returned (.bool (decide (b = 32))) ∧ Below w.heap.size w w' := by
  refine enter (args := [_]) (m := []) (F := []) Tryz.func106 rfl Tryz.ntmps106 (by simp) rfl ?_
  (repeat' (first|refine zza ?_|refine zc9 ?_|refine zzb fun w hw => ?_|refine zzh fun _ => ?_|refine zzi fun _ _ => ?_|refine zzj (fun _ => ?_) fun _ => ?_))
  refine ⟨congrArg (fun b => Ending.returned (.bool b)) ?_, hw.below⟩
  have := u8_eq b 32 (by omega)
  rw [Bool.eq_iff_iff, decide_eq_true_iff, decide_eq_true_iff]
  constructor
  · intro h; exact this.2 (by omega)
  · intro h; have := this.1 h; omega
theorem tw_step {p : UInt8 → Bool} {l : List UInt8} {k : Nat} (h : (l.takeWhile p) = l.take k ++ (l.drop k).takeWhile p) (hk : k < l.length) (hp : p (l.getD k 0) = true) : (l.takeWhile p) = l.take (k + 1) ++ (l.drop (k + 1)).takeWhile p := by
  rw [h, drop_cons (get_some hk 0), List.takeWhile_cons, hp, List.take_add_one, get_some hk 0]
  simp
theorem tw_stop {p : UInt8 → Bool} {l : List UInt8} {k : Nat} (h : (l.takeWhile p) = l.take k ++ (l.drop k).takeWhile p) (hk : l.length ≤ k ∨ p (l.getD k 0) = false) : (l.takeWhile p) = l.take k := by
  rcases hk with hk | hk
  · rw [h, List.drop_eq_nil_of_le hk]; simp
  · by_cases hl : k < l.length
    · rw [h, drop_cons (get_some hl 0), List.takeWhile_cons, hk]; simp
    · rw [h, List.drop_eq_nil_of_le (by omega)]; simp
theorem cut_part (l : List UInt8) (p k : Nat) : (l.take (p + k)).drop p = (l.drop p).take k := by rw [List.drop_take]; congr 1; omega
theorem getD_drop (l : List UInt8) (p k : Nat) : (l.drop p).getD k 0 = l.getD (p + k) 0 := by simp [List.getD_eq_getElem?_getD]
set_option maxHeartbeats 1000000 in
set_option maxRecDepth 100000 in
theorem lex_while (b : Nat) (src : List UInt8) (pos : Nat) (ws : Value) (f : FuncId) [FnT Tryz.prog f] (p : UInt8 → Bool) (hf : ∀ (c : UInt8) (w : World), Calls Tryz.prog f #[.int .u8 (c.toNat : Int)] w fun e w' => e = .returned (.bool (p c)) ∧ Below w.heap.size w w')
    (G : Rd) (w : World) (fp : List Nat) (hm : Own [rdr b src pos ws] fp w) (hs : Rd.sub G fp w) (hp : pos ≤ src.length) (hl : src.length ≤ 4294967280) :
    Calls Tryz.prog 105 #[.pointer (some ⟨b, 0, none⟩), .func (.func f) #[] #[]] w fun e w' => e = .returned (.string ⟨((src.drop pos).takeWhile p).toArray⟩) ∧ Holds w fp (ro w fp G :: [rdr b src (pos + ((src.drop pos).takeWhile p).length) ws]) w' := by
  refine enterR (args := [_, _]) hs hm Tryz.func105 rfl Tryz.ntmps105 (by simp) ?_
  (repeat' (first|refine zza ?_|refine zc9 ?_|refine zzb fun w hw => ?_|refine zzh fun _ => ?_|refine zzi fun _ _ => ?_|refine zzj (fun _ => ?_) fun _ => ?_))
  refine CW_loopK [(0,_),(1,_),(5,_)] zcov (fun _ : Nat => []) (fun x => [rdr b src (pos + x) ws, ro w fp G]) (fun x => pos + x ≤ src.length ∧ ((src.drop pos).takeWhile p) = (src.drop pos).take x ++ ((src.drop pos).drop x).takeWhile p) (fun x => src.length - (pos + x)) 0 ⟨hp, by simp⟩ zcov zent ?_
  rintro k ⟨hk, hz⟩
  have hdl : (src.drop pos).length = src.length - pos := by simp
  by_cases hlt : pos + k < src.length
  · have hg := getD_drop src pos k
    cases hpc : p (src.getD (pos + k) 0) with
    | true =>
      have hz2 := tw_step hz (by omega) (by rw [hg]; exact hpc)
      (repeat' (first|refine zza ?_|refine zc9 ?_|refine zzb fun w hw => ?_|refine zzh fun _ => ?_|refine zzi fun _ _ => ?_|refine zzj (fun _ => ?_) fun _ => ?_))
      refine WQ_callT rfl rfl rfl rfl (fun W hW => hf _ W) ?_
      rw [hpc]
      (repeat' (first|refine zza ?_|refine zc9 ?_|refine zzb fun w hw => ?_|refine zzh fun _ => ?_|refine zzi fun _ _ => ?_|refine zzj (fun _ => ?_) fun _ => ?_))
      (refine EX_loop' (k + 1) ?_; (repeat' (first | exact Cov.nil | exact Ent.refl | (apply And.intro) | (apply Cov.cons; rfl) | exact Ent.nil | refine zn1 ?_ | trivial | rfl | assumption | omega | (congr 1; omega))))
    | false =>
      have hz2 := tw_stop hz (.inr (by rw [hg]; exact hpc))
      have hn : ((src.drop pos).take k).length = k := by simp; omega
      rw [hz2, hn]
      (repeat' (first|refine zza ?_|refine zc9 ?_|refine zzb fun w hw => ?_|refine zzh fun _ => ?_|refine zzi fun _ _ => ?_|refine zzj (fun _ => ?_) fun _ => ?_))
      refine WQ_callT rfl rfl rfl rfl (fun W hW => hf _ W) ?_
      rw [hpc]
      (repeat' (first|refine zza ?_|refine zc9 ?_|refine zzb fun w hw => ?_|refine zzh fun _ => ?_|refine zzi fun _ _ => ?_|refine zzj (fun _ => ?_) fun _ => ?_))
      exact ⟨by rw [cut_part], hw.ent zent⟩
  · have hz2 := tw_stop hz (.inl (by omega))
    have hn : ((src.drop pos).take k).length = k := by simp; omega
    rw [hz2, hn]
    (repeat' (first|refine zza ?_|refine zc9 ?_|refine zzb fun w hw => ?_|refine zzh fun _ => ?_|refine zzi fun _ _ => ?_|refine zzj (fun _ => ?_) fun _ => ?_))
    exact ⟨by rw [cut_part], hw.ent zent⟩
end Go.Proofs.YtngeooflfkpikaaGreatDoor
