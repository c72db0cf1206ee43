/-
  Code in pieces: how the reference finds its pieces and lays them down, told plainly.
-/
import Derived.Test.YtngeooflfkpikaaGreatDoorYGo
import Derived.Test.YtngeooflfkpikaaGreatDoorYRefPcv
namespace Go.Proofs.YtngeooflfkpikaaGreatDoor
/-- pieces one behind the other: each instruction with the place where its piece begins -/
def spread : Nat → List (List Ins) → List (Ins × Nat)
  | _, [] => []
  | s, c :: r => at_ s c ++ spread (s + c.length) r
def begs : Nat → List (List Ins) → List Int
  | _, [] => []
  | s, c :: r => (s : Int) :: begs (s + c.length) r
def total (cs : List (List Ins)) : Nat := (cs.map List.length).sum
theorem total_cons (c : List Ins) (r : List (List Ins)) : total (c :: r) = c.length + total r := by simp [total]
theorem total_app (a b : List (List Ins)) : total (a ++ b) = total a + total b := by simp [total]
theorem spread_app : ∀ (s : Nat) (a b : List (List Ins)), spread s (a ++ b) = spread s a ++ spread (s + total a) b
  | s, [], b => by simp [spread, total]
  | s, c :: a, b => by
    rw [List.cons_append, spread, spread, spread_app (s + c.length) a b, total_cons, List.append_assoc, Nat.add_assoc]
theorem begs_app : ∀ (s : Nat) (a b : List (List Ins)), begs s (a ++ b) = begs s a ++ begs (s + total a) b
  | s, [], b => by simp [begs, total]
  | s, c :: a, b => by
    rw [List.cons_append, begs, begs, begs_app (s + c.length) a b, total_cons, List.cons_append, Nat.add_assoc]
theorem spread_len : ∀ (s : Nat) (a : List (List Ins)), (spread s a).length = total a
  | _, [] => rfl
  | s, c :: a => by rw [spread, List.length_append, at_len, spread_len (s + c.length) a, total_cons]
theorem begs_len : ∀ (s : Nat) (a : List (List Ins)), (begs s a).length = a.length
  | _, [] => rfl
  | s, c :: a => by rw [begs, List.length_cons, begs_len (s + c.length) a, List.length_cons]
theorem begs_get : ∀ (s : Nat) (a : List (List Ins)) (i : Nat), i < a.length → (begs s a)[i]? = some ((s + total (a.take i) : Nat) : Int)
  | _, [], i, h => absurd h (Nat.not_lt_zero _)
  | s, c :: a, 0, _ => rfl
  | s, c :: a, i + 1, h => by
    rw [begs, List.getElem?_cons_succ, begs_get (s + c.length) a i (by simpa using h), List.take_succ_cons, total_cons, Nat.add_assoc]
theorem total_take {a : List (List Ins)} {i : Nat} {c : List Ins} (h : a[i]? = some c) : total (a.take (i + 1)) = total (a.take i) + c.length := by
  rw [List.take_add_one, h, total_app]
  simp [total]
theorem total_take_le (a : List (List Ins)) (i : Nat) : total (a.take i) ≤ total a := by
  conv => rhs; rw [← List.take_append_drop i a, total_app]
  omega
/-- where each piece begins, of the first so many, and where the next one does -/
def bnds (a : List (List Ins)) (i : Nat) : List Int := (List.range (i + 1)).map fun k => ((total (a.take k) : Nat) : Int)
theorem bnds_len (a : List (List Ins)) (i : Nat) : (bnds a i).length = i + 1 := by simp [bnds]
theorem bnds_get (a : List (List Ins)) {i k : Nat} (h : k ≤ i) : (bnds a i)[k]? = some ((total (a.take k) : Nat) : Int) := by
  unfold bnds
  rw [List.getElem?_map, List.getElem?_range (by omega)]
  rfl
theorem bnds_step {a : List (List Ins)} {i : Nat} {c : List Ins} (h : a[i]? = some c) : bnds a (i + 1) = bnds a i ++ [((total (a.take i) : Nat) : Int) + (c.length : Nat)] := by
  unfold bnds
  rw [List.range_succ, List.map_append, List.map_singleton, total_take h]
  rfl
/-- one that waits, as the reference has it -/
def Wt.pr (w : Wt) : Int × Int := ((w.pos : Int), w.n)
/-- Tests go within their piece -/
def ToOk (c : List Ins) : Prop := ∀ i ∈ c, i.op = 9 → 0 ≤ i.to ∧ i.to ≤ 100000
theorem rounds_marks : ∀ (f : Nat) (l : List (Ins × Nat)) (ts : List Int) (q : List Wt), (∀ w ∈ q, WOk w) → q.map Wt.call = (marks 0 l).drop ts.length → (roundsP f l ts q).2.2.map Wt.call = (marks 0 (roundsP f l ts q).1).drop (roundsP f l ts q).2.1.length
  | 0, _, _, _, _, h => h
  | _ + 1, _, _, [], _, h => h
  | f + 1, l, ts, w :: q, hok, hq => by
    obtain ⟨d, hd⟩ := (hok w (.head _)).1
    rw [roundsP]
    refine rounds_marks f _ _ _ (fun x hx => ?_) ?_
    · rcases List.mem_append.1 hx with hx | hx
      · exact hok x (List.mem_cons_of_mem _ hx)
      · exact Exs.funcW_ok w.b _ _ _ hd x hx
    · have hlt : ts.length < (marks 0 l).length := by
        have := congrArg List.length hq
        rw [List.length_map, List.length_drop, List.length_cons] at this
        omega
      rw [List.map_append, marks_app, Nat.zero_add, List.length_append, List.length_singleton, List.drop_append_of_le_length (by omega), Exs.marks_eqF w.b _ 0 l.length w.pos l.length hd]
      congr 1
      have h1 : (marks 0 l).drop (ts.length + 1) = ((marks 0 l).drop ts.length).tail := by rw [List.tail_drop]
      rw [h1, ← hq]
      rfl
theorem Exs.pcsF_len : ∀ (b : Exs) (q : Nat), (b.pcsF q).length = (b.func 0 q).length
  | .nil, _ => rfl
  | .cons e .nil, q => by simp [Exs.pcsF, Exs.func, Ex.pcs_len e]
  | .cons c (.cons v r), q => by
    have ih := Exs.pcsF_len r (q + c.pcs.length + 1 + v.pcs.length + 1)
    rw [Ex.pcs_len c, Ex.pcs_len v] at ih
    simp [Exs.pcsF, Exs.func, Ex.pcs_len c, Ex.pcs_len v, ih]
theorem act_op9 (n : Nod) (g : Int) (hg : g = 1 ∨ g = 2) : (actN n g).op ≠ 9 := by
  unfold actN
  split
  · simp [callI]
  split
  · simp [callI]
  · dsimp only; omega
mutual
theorem Ex.pcs_op9 : ∀ (e : Ex) (d : Nat), e.ok d → ∀ i ∈ e.pcs, i.op ≠ 9
  | .leaf n, d, h, i, hi => by
    rw [List.mem_singleton.1 hi]
    exact (leaf_op h).1
  | .one n b r, d, h, i, hi => by
    unfold Ex.ok at h
    rw [Ex.pcs] at hi
    rcases List.mem_append.1 hi with hi | hi
    · exact Ex.pcs_op9 r d h.2.2 i hi
    · rw [List.mem_singleton.1 hi]
      exact act_op9 n 1 (.inl rfl)
  | .two n l b r, d, h, i, hi => by
    unfold Ex.ok at h
    rw [Ex.pcs] at hi
    rcases List.mem_append.1 hi with hi | hi
    · exact Ex.pcs_op9 r d h.2.2.2 i hi
    rcases List.mem_append.1 hi with hi | hi
    · exact Ex.pcs_op9 l d h.2.1 i hi
    · rw [List.mem_singleton.1 hi]
      exact act_op9 n 2 (.inr rfl)
  | .pick n o b, d, h, i, hi => by
    unfold Ex.ok at h
    rw [Ex.pcs] at hi
    rcases List.mem_append.1 hi with hi | hi
    · exact Exs.pcsR_op9 b d h.2.2 i hi
    rcases List.mem_append.1 hi with hi | hi
    · exact Ex.pcs_op9 o d h.2.1 i hi
    · rw [List.mem_singleton.1 hi]
      simp [pickI]
theorem Exs.pcsR_op9 : ∀ (b : Exs) (d : Nat), b.ok d → ∀ i ∈ b.pcsR, i.op ≠ 9
  | .nil, _, _, i, hi => by simp [Exs.pcsR] at hi
  | .cons e r, d, h, i, hi => by
    unfold Exs.ok at h
    rw [Exs.pcsR] at hi
    rcases List.mem_append.1 hi with hi | hi
    · exact Exs.pcsR_op9 r d h.2 i hi
    · exact Ex.pcs_op9 e d h.1 i hi
end
theorem Exs.pcsF_to : ∀ (b : Exs) (d o : Nat), b.ok d → ∀ i ∈ b.pcsF o, i.op = 9 → 0 ≤ i.to ∧ i.to ≤ ((o + (b.pcsF o).length : Nat) : Int)
  | .nil, _, _, _, i, hi, _ => by simp [Exs.pcsF] at hi
  | .cons e .nil, d, o, h, i, hi, h9 => by
    unfold Exs.ok at h
    rw [Exs.pcsF] at hi
    rcases List.mem_append.1 hi with hi | hi
    · exact absurd h9 (Ex.pcs_op9 e d h.1 i hi)
    · rw [List.mem_singleton.1 hi] at h9
      cases h9
  | .cons c (.cons v r), d, o, h, i, hi, h9 => by
    unfold Exs.ok at h
    have h2 := h.2
    unfold Exs.ok at h2
    have ih := Exs.pcsF_to r d (o + c.pcs.length + 1 + v.pcs.length + 1) h2.2
    rw [Exs.pcsF] at hi ⊢
    simp only [List.length_append, List.length_cons]
    rcases List.mem_append.1 hi with hi | hi
    · exact absurd h9 (Ex.pcs_op9 c d h.1 i hi)
    rcases List.mem_cons.1 hi with rfl | hi
    · dsimp only [testI]
      omega
    rcases List.mem_append.1 hi with hi | hi
    · exact absurd h9 (Ex.pcs_op9 v d h2.1 i hi)
    rcases List.mem_cons.1 hi with rfl | hi
    · cases h9
    · have := ih i hi h9
      omega
/-- where pieces are found: those that are known, those that wait, so many more -/
structure RunI (L : List Nod) (fin : List (Ins × Nat) × List Int × List Wt) (B K : Nat) (cs : List (List Ins)) (ws : List (Int × Int)) (f : Nat) : Prop where
  ex : ∃ q : List Wt, q.map Wt.pr = ws ∧ roundsP f (spread 0 cs) (begs 0 cs).tail q = fin ∧ waitN q ≤ f ∧ total cs + waitT q ≤ B ∧ q.length ≤ waitT q ∧ ∀ w ∈ q, WOk w ∧ ∃ rest, L.drop w.pos = w.b.flat ++ rest
  some : 0 < cs.length
  many : cs.length + f = K
  goes : ∀ c ∈ cs, ToOk c
theorem begs_tail (cs : List (List Ins)) (c : List Ins) (h : 0 < cs.length) : (begs 0 (cs ++ [c])).tail = (begs 0 cs).tail ++ [((spread 0 cs).length : Int)] := by
  rw [begs_app, List.tail_append_of_ne_nil (by intro he; have := congrArg List.length he; rw [begs_len, List.length_nil] at this; omega), spread_len, Nat.zero_add]
  rfl
theorem RunI.bound {L : List Nod} {fin : List (Ins × Nat) × List Int × List Wt} {B K : Nat} {cs : List (List Ins)} {ws : List (Int × Int)} {f : Nat} (h : RunI L fin B K cs ws f) : total cs + ws.length ≤ B := by
  obtain ⟨q, h1, h2, h3, h4, h5, h6⟩ := h.ex
  have := congrArg List.length h1
  rw [List.length_map] at this
  omega
theorem RunI.step {L : List Nod} {fin : List (Ins × Nat) × List Int × List Wt} {B K : Nat} {cs : List (List Ins)} {x : Int × Int} {ws : List (Int × Int)} {f : Nat} (hB : B ≤ 100000) (h : RunI L fin B K cs (x :: ws) f) :
    ∃ (b : Exs) (pos N d : Nat) (rest : List Nod) (f' : Nat), f = f' + 1 ∧ x = ((pos : Int), (N : Int)) ∧ b.ok d ∧ b.len = 2 * N + 1 ∧ L.drop pos = b.flat ++ rest ∧ RunI L fin B K (cs ++ [b.pcsF 0]) (ws ++ wsF pos b.list) f' := by
  obtain ⟨⟨q, h1, h2, h3, h4, h5, h6⟩, hs, hm, hg⟩ := h
  match q, h1 with
  | w :: q, h1 =>
    obtain ⟨⟨⟨d, hd⟩, hn0, hlen⟩, rest, hrest⟩ := h6 w (.head _)
    obtain ⟨N, hN⟩ := Int.eq_ofNat_of_zero_le hn0
    rw [List.map_cons, List.cons.injEq] at h1
    obtain ⟨hx, hq⟩ := h1
    have hwn : waitN (w :: q) = 1 + w.b.dfns + waitN q := rfl
    have hfn := Exs.waitN_func w.b (spread 0 cs).length w.pos
    have htf := Exs.tot_func 0 w.b 0 w.pos
    have hat := Exs.funcW_at (l := L) 0 w.b (d + 1) (spread 0 cs).length w.pos rest hd hrest
    have htq : ∀ o o', waitT (w.b.funcW o w.pos) = waitT (w.b.funcW o' w.pos) := fun o o' => by
      have e1 := Exs.tot_func 0 w.b o w.pos
      have e2 := Exs.tot_func 0 w.b o' w.pos
      rw [← Exs.pcsF_len] at e1 e2
      have e3 : (w.b.pcsF o).length = (w.b.pcsF o').length := by
        have k1 := congrArg List.length (Exs.layF w.b (d + 1) 0 o hd)
        have k2 := congrArg List.length (Exs.layF w.b (d + 1) 0 o' hd)
        have k3 : ∀ (b : Exs) (o o' : Nat), (b.pcsF o).length = (b.pcsF o').length := fun b => by
          refine b.rec (motive_1 := fun _ => True) (motive_2 := fun b => (∀ o o', (b.pcsF o).length = (b.pcsF o').length) ∧ ∀ e o o', ((Exs.cons e b).pcsF o).length = ((Exs.cons e b).pcsF o').length) (fun _ => trivial) (fun _ _ _ _ _ => trivial) (fun _ _ _ _ _ _ _ => trivial) (fun _ _ _ _ _ => trivial) ⟨fun _ _ => rfl, fun _ _ _ => rfl⟩ (fun e r _ ih => ⟨fun o o' => ih.2 e o o', fun c o o' => ?_⟩) |>.1
          simp only [Exs.pcsF, List.length_append, List.length_cons]
          rw [ih.1 (o + c.pcs.length + 1 + e.pcs.length + 1) (o' + c.pcs.length + 1 + e.pcs.length + 1)]
        exact k3 w.b o o'
      omega
    have hpl := Exs.pcsF_len w.b 0
    have hwt : waitT (w :: q) = w.b.tot + w.b.len + waitT q := rfl
    obtain ⟨f', rfl⟩ : ∃ f', f = f' + 1 := ⟨f - 1, by omega⟩
    have htl := htq (spread 0 cs).length 0
    have hsl := spread_len 0 cs
    have hto := Exs.pcsF_to w.b (d + 1) 0 hd
    refine ⟨w.b, w.pos, N, d + 1, rest, f', rfl, ?_, hd, ?_, hrest, ⟨⟨q ++ w.b.funcW (spread 0 cs).length w.pos, ?_, ?_, ?_, ?_, ?_, ?_⟩, ?_, ?_, ?_⟩⟩
    · rw [← hx]
      unfold Wt.pr
      rw [hN]
    · rw [hlen, hN]
      rfl
    · rw [List.map_append, hq, wsF_list w.b (spread 0 cs).length w.pos]
      rfl
    · rw [roundsP] at h2
      rw [begs_tail cs _ hs, spread_app, Nat.zero_add, ← hsl, ← h2]
      simp [spread]
    · rw [waitN_app]
      omega
    · rw [total_app, waitT_app]
      have : total [w.b.pcsF 0] = (w.b.pcsF 0).length := by simp [total]
      omega
    · have := waitT_ge (q := w.b.funcW (spread 0 cs).length w.pos) fun u hu => (hat u hu).1
      rw [waitT_app, List.length_append]
      have := waitT_ge (q := q) fun u hu => (h6 u (List.mem_cons_of_mem _ hu)).1
      omega
    · intro u hu
      rcases List.mem_append.1 hu with hu | hu
      · exact h6 u (List.mem_cons_of_mem _ hu)
      · exact ⟨(hat u hu).1, (hat u hu).2.1⟩
    · rw [List.length_append]
      omega
    · rw [List.length_append, List.length_singleton]
      omega
    · intro c hc i hi h9
      rcases List.mem_append.1 hc with hc | hc
      · exact hg c hc i hi h9
      · rw [List.mem_singleton.1 hc] at hi
        have := hto i hi h9
        omega
theorem RunI.stop {L : List Nod} {fin : List (Ins × Nat) × List Int × List Wt} {B K : Nat} {cs : List (List Ins)} {f : Nat} (h : RunI L fin B K cs [] f) : fin = (spread 0 cs, (begs 0 cs).tail, []) := by
  obtain ⟨⟨q, h1, h2, h3, h4, h5, h6⟩, hs, hm, hg⟩ := h
  match q, h1 with
  | [], _ =>
    rw [← h2]
    cases f <;> rfl
theorem RunI.start {L : List Nod} {e : Ex} {p : Nat} {rest : List Nod} (hok : e.ok 0) (hdr : L.drop p = e.flat ++ rest) : RunI L (pieces p e) (e.tot + 1) (e.dfns + 1) [e.pcs ++ [retI]] (wsE p e) e.dfns := by
  have htc := Ex.tot_code e 0 p
  have hat := Ex.waits_at (l := L) e 0 0 p rest hok hdr
  refine ⟨⟨e.waits 0 p, rfl, ?_, Ex.waitN_le e 0 p, ?_, waitT_ge fun u hu => (hat u hu).1, fun u hu => ⟨(hat u hu).1, (hat u hu).2.1⟩⟩, Nat.zero_lt_one, by simp; omega, ?_⟩
  · unfold pieces
    simp [spread, begs]
  · have : total [e.pcs ++ [retI]] = (e.code 0).length + 1 := by simp [total, Ex.pcs_len]
    omega
  · intro c hc i hi h9
    rw [List.mem_singleton.1 hc] at hi
    rcases List.mem_append.1 hi with hi | hi
    · exact absurd h9 (Ex.pcs_op9 e 0 hok i hi)
    · rw [List.mem_singleton.1 hi] at h9
      cases h9
theorem pieces_marks {d : Nat} {e : Ex} (h : e.ok d) (p : Nat) : (marks 0 (pieces p e).1).length ≤ (pieces p e).2.1.length := by
  have hm : (e.waits 0 p).map Wt.call = (marks 0 (at_ 0 (e.pcs ++ [retI]))).drop ([] : List Int).length := by
    rw [at_app, marks_app, Ex.marks_eq e d 0 p 0 h, show at_ 0 [retI] = [(retI, 0)] from rfl, mark_one (by simp [retI, ins0]), List.append_nil]
    rfl
  have hr := rounds_marks e.dfns _ [] _ (Ex.waits_ok e d 0 p h) hm
  have h0 := (comp_pieces h p).2
  unfold pieces at h0 ⊢
  rw [h0] at hr
  have := congrArg List.length hr
  rw [List.map_nil, List.length_nil, List.length_drop] at this
  omega
/-- where pieces are laid down: what is told, with what is left, is the code -/
structure LayI (C out : List Ins) (R : List (Ins × Nat)) (ts : List Int) : Prop where
  eq : out ++ layL R ts = C
  many : (marks 0 R).length ≤ ts.length
theorem marks_len (o o' : Nat) : ∀ (R : List (Ins × Nat)), (marks o R).length = (marks o' R).length
  | [] => rfl
  | (i, s) :: r => by
    rw [marks, marks]
    split
    · rw [List.length_cons, List.length_cons, marks_len (o + 1) (o' + 1) r]
    · exact marks_len (o + 1) (o' + 1) r
theorem LayI.mark {C out : List Ins} {i : Ins} {s : Nat} {R : List (Ins × Nat)} {ts : List Int} (h : LayI C out ((i, s) :: R) ts) (hm : isM i = true) : ∃ t ts', ts = t :: ts' ∧ LayI C (out ++ [lay1 i s t]) R ts' := by
  obtain ⟨h1, h2⟩ := h
  rw [marks, if_pos hm, List.length_cons, marks_len _ 0] at h2
  rw [layL, if_pos hm] at h1
  match ts, h1, h2 with
  | t :: ts, h1, h2 => exact ⟨t, ts, rfl, by rw [← h1]; simp, by simpa using h2⟩
theorem LayI.other {C out : List Ins} {i : Ins} {s : Nat} {R : List (Ins × Nat)} {ts : List Int} (h : LayI C out ((i, s) :: R) ts) (hm : isM i = false) : LayI C (out ++ [lay1 i s 0]) R ts := by
  obtain ⟨h1, h2⟩ := h
  rw [marks, if_neg (by simp [hm]), marks_len _ 0] at h2
  rw [layL, if_neg (by simp [hm])] at h1
  exact ⟨by rw [← h1]; simp, h2⟩
theorem LayI.stop {C out : List Ins} {ts : List Int} (h : LayI C out [] ts) : out = C := by
  have := h.eq
  rw [layL, List.append_nil] at this
  exact this
theorem LayI.start {L : List Nod} {e : Ex} {p B K f d : Nat} {cs : List (List Ins)} (hok : e.ok d) (h : RunI L (pieces p e) B K cs [] f) : LayI (compC p e) [] (spread 0 cs) (begs 0 cs).tail := by
  have h1 := h.stop
  have h2 := comp_pieces hok p
  have h3 := pieces_marks hok p
  rw [h1] at h2 h3
  exact ⟨by rw [List.nil_append]; exact h2.1.symm, h3⟩
end Go.Proofs.YtngeooflfkpikaaGreatDoor
