/-
  The logic of walks: a slice of the call's own that lost its first elements (a queue); a field of an element of a slice of the call's own. Of no program.
-/
import Derived.Test.YtdmapiaejcnibaaDoorRd
namespace Go.Proofs.YtdmapiaejcnibaaDoor
open Go.RowKit

/-- the slice value .slice p n c is the call's own, wherever in its block it begins, and holds xs (sz cells an element of type e) -/
def sq (e : TypeId) (sz : Nat) (p : Option Addr) (n c : Nat) (xs : List Value) : HP where
  p w fp := fp = blkOf p ∧ xs.length = n * sz ∧ ((p = none ∧ n = 0 ∧ c = 0) ∨ ∃ g off cur, p = some ⟨g, off, none⟩ ∧ w.heap[g]? = some (.cells cur e (0, 0)) ∧ n ≤ c ∧ c ≤ maxLen ∧ off + c * sz ≤ cur.size ∧ (cur.toList.drop off).take (n * sz) = xs)
  st w w' fp h := by
    rintro ⟨rfl, h1, h2⟩
    refine ⟨rfl, h1, ?_⟩
    rcases h2 with h2 | ⟨g, off, cur, rfl, hg, r⟩
    · exact .inl h2
    · exact .inr ⟨g, off, cur, rfl, (h g (by simp [blkOf])).trans hg, r⟩
  lt w fp := by
    rintro ⟨rfl, h1, h2⟩ i hi
    rcases h2 with ⟨rfl, _⟩ | ⟨g, off, cur, rfl, hg, r⟩
    · simp [blkOf] at hi
    · have : i = g := by simpa [blkOf] using hi
      subst this
      exact (Array.getElem?_eq_some_iff.1 hg).1
theorem Ent.nilsq {m m' : List HP} {e : TypeId} {sz : Nat} (k : Ent m m') : Ent m (sq e sz none 0 0 [] :: m') := fun fp w ho => by
  obtain ⟨fp', h, hs⟩ := k fp w ho
  exact ⟨fp', ⟨[], fp', rfl, ⟨rfl, by simp, .inl ⟨rfl, rfl, rfl⟩⟩, h, by simp⟩, hs⟩
theorem add_at (b i j : Nat) : (⟨b, i, none⟩ : Addr).add j = ⟨b, i + j, none⟩ := by
  unfold Addr.add
  split <;> simp [*]
/-- the address behind a slice's first element -/
def tailP (p : Option Addr) (c sz : Nat) : Option Addr := if c = 1 then p else p.map (·.add sz)
section
variable {P : Program} {K : Cx} {ρ : Env} {m r : List HP} {dst : Option Nat} {ty t t' e : TypeId} {pos : String} {aft : Array Edge} {g : Option (Nat × Bool)} {v : Value} {x y z : Operand} {ops : Array Oper} {Q : Exit → Act → World → Prop} {rest : List Oper} {d sz n c bytes : Nat} {zs xs ys : List Value} {p : Option Addr}
theorem Holds.sqR {w0 w : World} {F : List Nat} (hh : Holds w0 F m w) (hp : Pick m (sq e sz p n c xs) r) : xs.length = n * sz ∧ ((p = none ∧ n = 0 ∧ c = 0) ∨ ∃ g off cur, p = some ⟨g, off, none⟩ ∧ w.heap[g]? = some (.cells cur e (0, 0)) ∧ n ≤ c ∧ c ≤ maxLen ∧ off + c * sz ≤ cur.size ∧ (cur.toList.drop off).take (n * sz) = xs) := by
  obtain ⟨_, _, h⟩ := hh.pick hp
  exact h
/-- the slice without its first element -/
theorem y_tail [S : SlT P t e sz] {k : IntKind} (hx : opv ρ x = some (.slice p (n + 1) c)) (hy : opv ρ y = some (.int k 1)) : Yi P K ρ m ⟨dst, .slice t x (some y) none none, ty, pos, aft, g⟩ (.slice (tailP p c sz) n (c - 1)) := ⟨fun a w hf _ => by
  have he : P.elem t = e := by simp [Program.elem, S.und]
  have ht' : P.underlying t = some (.slice (P.elem t)) := by rw [he]; exact S.und
  have h4 : (Instr.sliceAt t (.slice p (n + 1) c) (some (.int k 1)) none none).run P w = .ok (.slice (tailP p c sz) n (c - 1)) w := by
    rw [run_sliceAt_slice (w := w) t _ _ _ _ ht', run_slice_l (w := w) t p (n + 1) c ht' k 1 (by omega) (by omega), he, S.size w]
    simp [Result.andThen, sliced, tailP]
  simp only [execOp, Option.map_some, Option.map_none, hf.eval hx, hf.eval hy]
  simp [h4]⟩
theorem Ent.tail {m' : List HP} (hp : Pick m (sq e sz p (n + 1) c (ys ++ xs)) r) (hl : ys.length = sz) (kk : Ent r m') : Ent m (sq e sz (tailP p c sz) n (c - 1) xs :: m') := fun fp w ho => by
  obtain ⟨f1, f2, he, ⟨hf1, hlen, hown⟩, k2, kd⟩ := hp.own ho
  obtain ⟨f3, h3, hs⟩ := kk f2 w k2
  have hxl : xs.length = n * sz := by rw [List.length_append, hl, Nat.add_mul, Nat.one_mul] at hlen; omega
  rcases hown with ⟨_, h0, _⟩ | ⟨g, off, cur, rfl, hg, hnc, hcm, hcs, ht⟩
  · omega
  have hb : blkOf (tailP (some ⟨g, off, none⟩) c sz) = f1 := by
    rw [hf1]; unfold tailP
    split
    · rfl
    · simp [blkOf, add_at]
  refine ⟨f1 ++ f3, ⟨f1, f3, rfl, ⟨hb.symm, hxl, .inr ?_⟩, h3, fun i hi h => kd i hi (hs i h)⟩, fun i hi => ?_⟩
  · unfold tailP
    by_cases hc : c = 1
    · subst hc
      have hn : n = 0 := by omega
      subst hn
      have hx0 : xs = [] := List.eq_nil_of_length_eq_zero (by omega)
      subst hx0
      exact ⟨g, off, cur, by rw [if_pos rfl], hg, Nat.le_refl _, by omega, by omega, by simp⟩
    · refine ⟨g, off + sz, cur, by rw [if_neg hc, Option.map_some, add_at], hg, by omega, by omega, ?_, ?_⟩
      · have : c * sz = (c - 1) * sz + sz := by
          conv => lhs; rw [show c = (c - 1) + 1 by omega]
          rw [Nat.add_mul, Nat.one_mul]
        omega
      · have h5 := congrArg (List.drop sz) ht
        rw [← hl, List.drop_left, hl] at h5
        rw [← h5, List.drop_take, List.drop_drop, Nat.add_mul, Nat.one_mul, Nat.add_sub_cancel, Nat.add_comm off]
  · rcases List.mem_append.1 hi with hi | hi
    · exact (he i).2 (.inl hi)
    · exact (he i).2 (.inr (hs i hi))
theorem sq_some {w0 w : World} {F : List Nat} (hh : Holds w0 F m w) (hp : Pick m (sq e sz p n c xs) r) (h : 0 < n) : p.isSome = true := by
  rcases (hh.sqR hp).2 with ⟨_, h0, _⟩ | ⟨g, off, cur, rfl, _⟩
  · omega
  · rfl
theorem y_ixq {i : Nat} {k : IntKind} [S : SlT P t e sz] (hx : opv ρ x = some (.slice p n c)) (hy : opv ρ y = some (.int k (i : Int))) (hp : Pick m (sq e sz p n c xs) r) (hi : i < n) : Yi P K ρ m ⟨dst, .indexAddr t x y, ty, pos, aft, g⟩ (.pointer (some (addrAt p (i * sz)))) :=
  ⟨fun a w hf hm => (y_indexN (P := P) (K := K) (ρ := ρ) (m := m) (dst := dst) (ty := ty) (pos := pos) (aft := aft) (g := g) hx hy (sq_some hm hp (by omega)) hi).run a w hf hm⟩
theorem rd_sq {i j : Nat} {l : List Value} (hp : Pick m (sq e sz p n c xs) r) (hl : (xs.drop (i * sz + j)).take l.length = l) (hi : i * sz + j + l.length ≤ n * sz) : RdC K m ((addrAt p (i * sz)).add j) l := fun w hw k u hu => by
  obtain ⟨h1, h⟩ := hw.sqR hp
  have hk : k < l.length := (List.getElem?_eq_some_iff.1 hu).1
  rw [← hl, List.getElem?_take, if_pos hk, List.getElem?_drop] at hu
  rcases h with ⟨_, hn, _⟩ | ⟨g, off, cur, rfl, hg, _, _, _, ht⟩
  · subst hn; omega
  · have e1 : ((addrAt (some ⟨g, off, none⟩) (i * sz)).add j).add k = ⟨g, off + (i * sz + j + k), none⟩ := by
      unfold addrAt
      show (((⟨g, off, none⟩ : Addr).add (i * sz)).add j).add k = _
      rw [add_at, add_at, add_at]
      congr 1
      omega
    rw [e1]
    rw [← ht, List.getElem?_take, if_pos (by omega), List.getElem?_drop] at hu
    simp only [World.cell?, hg]
    simpa using hu
/-- append of a block that was just built -/
theorem WL_appendQ [S : ElT P t e sz zs bytes] {p' : Option Addr} {b n' c' : Nat} {cs : Array Value} {m1 : List HP} (hx : opv ρ x = some (.slice p n c)) (hy : opv ρ y = some (.slice p' n' c')) (he : p' = some ⟨b, 0, none⟩)
    (hp : Pick m (sq e sz p n c xs) m1) (hp2 : Pick m1 (blk b e cs) r) (hl : cs.size = n' * sz) (h1' : cs.toList.all Value.oneCell' = true) (hmax : (n + n') * bytes ≤ 140737488355328) (hmax2 : n + n' ≤ 140737488355328)
    (hg : guardB ops g ρ = some true) (hn : (guardN K.N ops g && Nat.blt d K.N) = true) (k : ∀ q c'', WL P K ops Q rest ((d, .slice q (n + n') c'') :: ρ) (sq e sz q (n + n') c'' (xs ++ cs.toList) :: r)) :
    WL P K ops Q (⟨some d, .call ⟨.builtin .append, #[x, y], #[t, t]⟩, ty, pos, aft, g⟩ :: rest) ρ m := by
  refine WL_step hg hn fun a w hf hm => ?_
  obtain ⟨i, z, hi, hz, hsz, hby, hzs⟩ := S.info
  have h1 : ∀ u ∈ cs.toList, u.oneCell' = true := fun u hu => (List.all_eq_true.1 h1') u hu
  obtain ⟨hxl, hown⟩ := hm.sqR hp
  obtain ⟨fp, ⟨hfp, _⟩, _, hsp⟩ := hm.split hp
  have hb : w.heap[b]? = some (.cells cs e (0, 0)) := by
    have h2 := hsp [] w ⟨Keep.refl _ _, [], rfl, by simp⟩
    exact h2.blk hp2
  subst he
  have hnews : ∀ (j : Nat) u, cs.toList[j]? = some u → w.cell? ((⟨b, 0, none⟩ : Addr).add j) = some u := fun j u hu => by
    rw [add_at, Nat.zero_add]; simp only [World.cell?, hb]; simpa using hu
  have hzl : z.cells.size = sz := by rw [hzs]; simp [S.len]
  have hlen : (xs ++ cs.toList).length = (n + n') * sz := by rw [List.length_append, hxl, Nat.add_mul]; simp [hl]
  -- a new block
  have newB : ∀ (w' : World) (q : Option Addr) (c'' : Nat), (Builtin.append_ #[t, t] ty #[.slice p n c, .slice (some ⟨b, 0, none⟩) n' c']).run P w = .ok (.slice q (n + n') c'') w' → Below w.heap.size w w' → (sq e sz q (n + n') c'' (xs ++ cs.toList)).p w' (blkOf q) → (∀ i ∈ blkOf q, w.heap.size ≤ i) →
      ∃ v m' w', (execOp a.eval ⟨some d, .call ⟨.builtin .append, #[x, y], #[t, t]⟩, ty, pos, aft, g⟩).run P w = .ok (.value v) w' ∧ Holds K.w0 K.F m' w' ∧ WL P K ops Q rest ((d, v) :: ρ) m' := by
    intro w' q c'' hr hbl hq hfresh
    refine ⟨_, sq e sz q (n + n') c'' (xs ++ cs.toList) :: r, w', run_bi hf hx hy hr, ?_, k q c''⟩
    have hH : Holds w fp [sq e sz q (n + n') c'' (xs ++ cs.toList)] w' :=
      ⟨Keep.ofBelow hbl, blkOf q, ⟨blkOf q, [], by simp, hq, rfl, by simp⟩, fun i hi hl => by have := hfresh i hi; omega⟩
    exact (hsp _ w' hH).ent (Ent.sub (r2 := r) hp2)
  rcases hown with ⟨rfl, rfl, rfl⟩ | ⟨gg, off, cur, rfl, hgg, hnc, hcm, hcs, htake⟩
  · have hx0 : xs = [] := List.eq_nil_of_length_eq_zero (by simpa using hxl)
    subst hx0
    obtain ⟨v', w', hr, h2, h3, _⟩ := run_append_own (P := P) w w.heap.size t ty e i z sz bytes S.und hi hz hsz hby hzl S.pos (.slice none 0 0) 0 [] ⟨by simp, .inl ⟨rfl, rfl⟩⟩ ⟨b, 0, none⟩ n' c' cs.toList (by simpa using hl) hnews h1 (by unfold maxLen; omega) hmax (Nat.le_refl _)
    rcases h2.2 with ⟨hv, h0⟩ | ⟨g2, cap, cur, hv, hge, hg2, hn2, hc2, hs2, ht2⟩
    · subst hv
      refine newB w' none 0 (by rw [hr, h0]) ?_ ⟨rfl, hlen, .inl ⟨rfl, h0, rfl⟩⟩ (by simp [blkOf])
      exact ⟨h3.os, h3.tape, h3.output, h3.size, fun k hk => h3.block k hk (by simp [Value.ownBlock])⟩
    · subst hv
      refine newB w' _ _ hr ⟨h3.os, h3.tape, h3.output, h3.size, fun k hk => h3.block k hk (by simp [Value.ownBlock])⟩ ⟨rfl, hlen, .inr ⟨g2, 0, cur, rfl, hg2, hn2, hc2, by omega, by rw [List.drop_zero]; exact ht2⟩⟩ ?_
      intro i hi
      have : i = g2 := by simpa [blkOf] using hi
      omega
  · subst hsz
    subst hby
    by_cases hroom : n + n' ≤ c
    · have hfit : off + n * i.size + cs.toList.length ≤ cur.size := by
        have h5 : (n + n') * i.size ≤ c * i.size := Nat.mul_le_mul_right _ hroom
        rw [Nat.add_mul] at h5
        simp [hl]; omega
      have hfc := run_firstCells_some (P := P) w i.size n' ⟨b, 0, none⟩ n' c' cs.toList (by simpa using hl) hnews
      have hst := run_storeCells_at P gg (off + n * i.size) e cs.toList 0 cur w hgg (by simpa using hfit) h1
      simp only [Nat.add_zero] at hst
      have hr : (Builtin.append_ #[t, t] ty #[.slice (some ⟨gg, off, none⟩) n c, .slice (some ⟨b, 0, none⟩) n' c']).run P w = .ok (.slice (some ⟨gg, off, none⟩) (n + n') c) (w.setRow gg (cur.toList.take (off + n * i.size) ++ cs.toList ++ cur.toList.drop (off + n * i.size + cs.toList.length)).toArray) := by
        simp [Builtin.append_, run_underlying S.und, sizeOf, typeInfo, hi, Builtin.lenOf, hroom, hfc, Addr.add_lit, hst]
      refine ⟨_, sq e i.size (some ⟨gg, off, none⟩) (n + n') c (xs ++ cs.toList) :: r, _, run_bi hf hx hy hr, ?_, k _ c⟩
      have hlt : gg < w.heap.size := (Array.getElem?_eq_some_iff.1 hgg).1
      have hH : Holds w fp [sq e i.size (some ⟨gg, off, none⟩) (n + n') c (xs ++ cs.toList)] (w.setRow gg (cur.toList.take (off + n * i.size) ++ cs.toList ++ cur.toList.drop (off + n * i.size + cs.toList.length)).toArray) := by
        refine ⟨⟨rfl, rfl, rfl, by simp [World.setRow], fun k _ hF => ?_⟩, [gg], ⟨[gg], [], by simp, ⟨rfl, hlen, .inr ⟨gg, off, (cur.toList.take (off + n * i.size) ++ cs.toList ++ cur.toList.drop (off + n * i.size + cs.toList.length)).toArray, rfl, ?_, hroom, hcm, ?_, ?_⟩⟩, rfl, by simp⟩, fun i hi _ => by rw [hfp]; exact hi⟩
        · have hne : gg ≠ k := by rw [hfp] at hF; intro h; exact hF (by simp [blkOf, h])
          simp [World.setRow, Array.getElem?_modify, hne]
        · simp [World.setRow, Array.getElem?_modify, hgg]
        · simp at hfit ⊢; omega
        · have hA : (cur.toList.take (off + n * i.size)).length = off + n * i.size := by simp at hfit ⊢; omega
          simp only [List.append_assoc]
          rw [List.drop_append_of_le_length (by rw [hA]; omega), List.drop_take, Nat.add_sub_cancel_left, htake, ← List.append_assoc, ← hlen, List.take_left]
      exact (hsp _ _ hH).ent (Ent.sub (r2 := r) hp2)
    · have holds : ∀ j u, xs[j]? = some u → w.cell? ((⟨gg, off, none⟩ : Addr).add j) = some u := fun j u hu => by
        rw [add_at]
        have hj : j < xs.length := (List.getElem?_eq_some_iff.1 hu).1
        rw [← htake, List.getElem?_take, if_pos (by omega), List.getElem?_drop] at hu
        simp only [World.cell?, hgg]
        simpa using hu
      have hr := run_append_grow (P := P) w t ty e i z S.und hi hz ⟨gg, off, none⟩ n c xs hxl holds ⟨b, 0, none⟩ n' c' cs.toList (by simpa using hl) hnews (by omega) (by omega) (growslice_fits (by omega) hmax)
      refine newB _ _ _ hr (((Below.refl _ _).drew).alloc (Nat.le_refl _) _) ⟨rfl, hlen, .inr ⟨w.heap.size, 0, xs.toArray ++ cs.toList.toArray ++ Builtin.zeroCells z.cells (grownCap w (n + n') c e - (n + n')), rfl, ?_, grownCap_ge _ _ _ _, grownCap_le_maxLen _ _ _ _ (by unfold maxLen; omega), ?_, ?_⟩⟩ ?_
      · show (w.heap.push _)[w.heap.size]? = _
        simp
      · have hge := grownCap_ge w (n + n') c e
        have hsz : (xs.toArray ++ cs.toList.toArray).size = (n + n') * i.size := by rw [← hlen]; simp
        rw [Array.size_append, hsz, size_zeroCells, hzl, ← Nat.add_mul, Nat.zero_add, Nat.add_sub_cancel' hge]
        exact Nat.le_refl _
      · rw [List.drop_zero]
        have : (xs.toArray ++ cs.toList.toArray ++ Builtin.zeroCells z.cells (grownCap w (n + n') c e - (n + n'))).toList = (xs ++ cs.toList) ++ (Builtin.zeroCells z.cells (grownCap w (n + n') c e - (n + n'))).toList := by simp
        rw [this, ← hlen, List.take_left]
      · intro i hi
        have : i = w.heap.size := by simpa [blkOf] using hi
        omega
/-- a store into a field of an element of a slice of the call's own -/
theorem WL_storeF {i j : Nat} {zv : Value} [S : OneT P t zv] (hx : opv ρ x = some (.pointer (some ((addrAt p (i * sz)).add j)))) (hy : opv ρ y = some v) (h1 : v.oneCell' = true) (hp : Pick m (sl e sz p n c xs) r) (hi : i * sz + j < n * sz)
    (hg : guardB ops g ρ = some true) (hn : guardN K.N ops g = true) (k : WL P K ops Q rest ρ (sl e sz p n c (xs.set (i * sz + j) v) :: r)) :
    WL P K ops Q (⟨none, .store t x y, ty, pos, aft, g⟩ :: rest) ρ m := by
  refine WL_stepU hg hn fun a w hf hm => ?_
  obtain ⟨fp, ⟨hfp, hown⟩, _, hsp⟩ := hm.split hp
  rcases hown.2 with ⟨hv, h0⟩ | ⟨gg, cap, cur, hv, hb, hgg, hnc, hcm, hcs, ht⟩
  · subst h0; omega
  simp only [Value.slice.injEq] at hv
  obtain ⟨rfl, _, rfl⟩ := hv
  have ha : (addrAt (some ⟨gg, 0, none⟩) (i * sz)).add j = ⟨gg, i * sz + j, none⟩ := by
    unfold addrAt; show ((⟨gg, 0, none⟩ : Addr).add (i * sz)).add j = _; rw [add_at, add_at, Nat.zero_add]
  rw [ha] at hx
  have hle : n * sz ≤ c * sz := Nat.mul_le_mul_right _ hnc
  have hlt : i * sz + j < cur.size := by omega
  have h3 := run_store1 (P := P) (t := t) (w := w) (a := ⟨gg, i * sz + j, none⟩) (v := v) (u := cur[i * sz + j]) (S.size w) h1 (by simp [World.cell?, hgg, hlt]) (by simp [World.frozen?, hgg])
  refine ⟨sl e sz (some ⟨gg, 0, none⟩) n c (xs.set (i * sz + j) v) :: r, w.setCell ⟨gg, i * sz + j, none⟩ v, ?_, ?_, k⟩
  · simp only [execOp, hf.eval hx, hf.eval hy]
    simp [h3]
  · refine hsp [sl e sz (some ⟨gg, 0, none⟩) n c (xs.set (i * sz + j) v)] _ ⟨⟨rfl, rfl, rfl, by simp [World.setCell], fun k _ hF => Below.heap_setCell _ _ _ _ (by rw [hfp] at hF; simpa [blkOf] using hF)⟩, [gg], ⟨[gg], [], rfl, ⟨rfl, by rw [List.length_set]; exact hown.1, .inr ⟨gg, c, cur.setIfInBounds (i * sz + j) v, rfl, Nat.zero_le _, ?_, hnc, hcm, by simpa using hcs, ?_⟩⟩, rfl, by simp⟩, fun i hi _ => by rw [hfp]; exact hi⟩
    · simp [World.setCell, Array.getElem?_modify, hgg]
    · rw [← ht, Array.toList_setIfInBounds, List.take_set]
end
end Go.Proofs.YtdmapiaejcnibaaDoor
