/-
  The logic of walks: a slice of the call's own that lost its first elements (a queue); a field of an element of a slice of the call's own. Of no program.
-/
import Derived.Test.YtngeooflfkpikaaGreatDoorYRd
namespace Go.Proofs.YtngeooflfkpikaaGreatDoor
open Go.RowKit
/-- the slice value .slice p n c is the call's own, wherever in its block it begins, and holds xs (sz cells an element of type e) -/
def sq (e : TypeId) (sz : Nat) (p : Option Addr) (n c : Nat) (xs : List Value) : HP where
  p w fp := fp = blkOf p ∧ xs.length = n * sz ∧ ((p = none ∧ n = 0 ∧ c = 0) ∨ ∃ g off cur, p = some ⟨g, off, none⟩ ∧ w.heap[g]? = some (.cells cur e (0, 0)) ∧ n ≤ c ∧ c ≤ maxLen ∧ off + c * sz ≤ cur.size ∧ (cur.toList.drop off).take (n * sz) = xs)
  st w w' fp h := by
    rintro ⟨rfl, h1, h2⟩
    refine ⟨rfl, h1, ?_⟩
    rcases h2 with h2 | ⟨g, off, cur, rfl, hg, r⟩
    · exact .inl h2
    · exact .inr ⟨g, off, cur, rfl, (h g (by simp [blkOf])).trans hg, r⟩
  lt w fp := by
    rintro ⟨rfl, h1, h2⟩ i hi
    rcases h2 with ⟨rfl, _⟩ | ⟨g, off, cur, rfl, hg, r⟩
    · simp [blkOf] at hi
    · have : i = g := by simpa [blkOf] using hi
      subst this
      exact (Array.getElem?_eq_some_iff.1 hg).1
theorem Ent.nilsq {m m' : List HP} {e : TypeId} {sz : Nat} (k : Ent m m') : Ent m (sq e sz none 0 0 [] :: m') := fun fp w ho => by
  obtain ⟨fp', h, hs⟩ := k fp w ho
  exact ⟨fp', ⟨[], fp', rfl, ⟨rfl, by simp, .inl ⟨rfl, rfl, rfl⟩⟩, h, by simp⟩, hs⟩
theorem add_at (b i j : Nat) : (⟨b, i, none⟩ : Addr).add j = ⟨b, i + j, none⟩ := by
  unfold Addr.add
  split <;> simp [*]
/-- the address behind a slice's first element -/
def tailP (p : Option Addr) (c sz : Nat) : Option Addr := if c = 1 then p else p.map (·.add sz)
section
variable {P : Program} {K : Cx} {ρ : Env} {m r : List HP} {dst : Option Nat} {ty t t' e : TypeId} {pos : String} {aft : Array Edge} {g : Option (Nat × Bool)} {v : Value} {x y z : Operand} {ops : Array Oper} {Q : Exit → Act → World → Prop} {rest : List Oper} {d sz n c bytes : Nat} {zs xs ys : List Value} {p : Option Addr}
theorem Holds.sqR {w0 w : World} {F : List Nat} (hh : Holds w0 F m w) (hp : Pick m (sq e sz p n c xs) r) : xs.length = n * sz ∧ ((p = none ∧ n = 0 ∧ c = 0) ∨ ∃ g off cur, p = some ⟨g, off, none⟩ ∧ w.heap[g]? = some (.cells cur e (0, 0)) ∧ n ≤ c ∧ c ≤ maxLen ∧ off + c * sz ≤ cur.size ∧ (cur.toList.drop off).take (n * sz) = xs) := by
  obtain ⟨_, _, h⟩ := hh.pick hp
  exact h
/-- the slice without its first element -/
theorem y_tail [S : SlT P t e sz] {k : IntKind} (hx : opv ρ x = some (.slice p (n + 1) c)) (hy : opv ρ y = some (.int k 1)) : Yi P K ρ m ⟨dst, .slice t x (some y) none none, ty, pos, aft, g⟩ (.slice (tailP p c sz) n (c - 1)) := ⟨fun a w hf _ => by
  have he : P.elem t = e := by simp [Program.elem, S.und]
  have ht' : P.underlying t = some (.slice (P.elem t)) := by rw [he]; exact S.und
  have h4 : (Instr.sliceAt t (.slice p (n + 1) c) (some (.int k 1)) none none).run P w = .ok (.slice (tailP p c sz) n (c - 1)) w := by
    rw [run_sliceAt_slice (w := w) t _ _ _ _ ht', run_slice_l (w := w) t p (n + 1) c ht' k 1 (by omega) (by omega), he, S.size w]
    simp [Result.andThen, sliced, tailP]
  simp only [execOp, Option.map_some, Option.map_none, hf.eval hx, hf.eval hy]
  simp [h4]⟩
theorem Ent.tail {m' : List HP} (hp : Pick m (sq e sz p (n + 1) c (ys ++ xs)) r) (hl : ys.length = sz) (kk : Ent r m') : Ent m (sq e sz (tailP p c sz) n (c - 1) xs :: m') := fun fp w ho => by
  obtain ⟨f1, f2, he, ⟨hf1, hlen, hown⟩, k2, kd⟩ := hp.own ho
  obtain ⟨f3, h3, hs⟩ := kk f2 w k2
  have hxl : xs.length = n * sz := by rw [List.length_append, hl, Nat.add_mul, Nat.one_mul] at hlen; omega
  rcases hown with ⟨_, h0, _⟩ | ⟨g, off, cur, rfl, hg, hnc, hcm, hcs, ht⟩
  · omega
  have hb : blkOf (tailP (some ⟨g, off, none⟩) c sz) = f1 := by
    rw [hf1]; unfold tailP
    split
    · rfl
    · simp [blkOf, add_at]
  refine ⟨f1 ++ f3, ⟨f1, f3, rfl, ⟨hb.symm, hxl, .inr ?_⟩, h3, fun i hi h => kd i hi (hs i h)⟩, fun i hi => ?_⟩
  · unfold tailP
    by_cases hc : c = 1
    · subst hc
      have hn : n = 0 := by omega
      subst hn
      have hx0 : xs = [] := List.eq_nil_of_length_eq_zero (by omega)
      subst hx0
      exact ⟨g, off, cur, by rw [if_pos rfl], hg, Nat.le_refl _, by omega, by omega, by simp⟩
    · refine ⟨g, off + sz, cur, by rw [if_neg hc, Option.map_some, add_at], hg, by omega, by omega, ?_, ?_⟩
      · have : c * sz = (c - 1) * sz + sz := by
          conv => lhs; rw [show c = (c - 1) + 1 by omega]
          rw [Nat.add_mul, Nat.one_mul]
        omega
      · have h5 := congrArg (List.drop sz) ht
        rw [← hl, List.drop_left, hl] at h5
        rw [← h5, List.drop_take, List.drop_drop, Nat.add_mul, Nat.one_mul, Nat.add_sub_cancel, Nat.add_comm off]
  · rcases List.mem_append.1 hi with hi | hi
    · exact (he i).2 (.inl hi)
    · exact (he i).2 (.inr (hs i hi))
theorem sq_some {w0 w : World} {F : List Nat} (hh : Holds w0 F m w) (hp : Pick m (sq e sz p n c xs) r) (h : 0 < n) : p.isSome = true := by
  rcases (hh.sqR hp).2 with ⟨_, h0, _⟩ | ⟨g, off, cur, rfl, _⟩
  · omega
  · rfl
theorem y_ixq {i : Nat} {k : IntKind} [S : SlT P t e sz] (hx : opv ρ x = some (.slice p n c)) (hy : opv ρ y = some (.int k (i : Int))) (hp : Pick m (sq e sz p n c xs) r) (hi : i < n) : Yi P K ρ m ⟨dst, .indexAddr t x y, ty, pos, aft, g⟩ (.pointer (some (addrAt p (i * sz)))) :=
  ⟨fun a w hf hm => (y_indexN (P := P) (K := K) (ρ := ρ) (m := m) (dst := dst) (ty := ty) (pos := pos) (aft := aft) (g := g) hx hy (sq_some hm hp (by omega)) hi).run a w hf hm⟩
theorem rd_sq {i j : Nat} {l : List Value} (hp : Pick m (sq e sz p n c xs) r) (hl : (xs.drop (i * sz + j)).take l.length = l) (hi : i * sz + j + l.length ≤ n * sz) : RdC K m ((addrAt p (i * sz)).add j) l := fun w hw k u hu => by
  obtain ⟨h1, h⟩ := hw.sqR hp
  have hk : k < l.length := (List.getElem?_eq_some_iff.1 hu).1
  rw [← hl, List.getElem?_take, if_pos hk, List.getElem?_drop] at hu
  rcases h with ⟨_, hn, _⟩ | ⟨g, off, cur, rfl, hg, _, _, _, ht⟩
  · subst hn; omega
  · have e1 : ((addrAt (some ⟨g, off, none⟩) (i * sz)).add j).add k = ⟨g, off + (i * sz + j + k), none⟩ := by
      unfold addrAt
      show (((⟨g, off, none⟩ : Addr).add (i * sz)).add j).add k = _
      rw [add_at, add_at, add_at]
      congr 1
      omega
    rw [e1]
    rw [← ht, List.getElem?_take, if_pos (by omega), List.getElem?_drop] at hu
    simp only [World.cell?, hg]
    simpa using hu
/-- a store into a field of an element of a slice of the call's own -/
theorem WL_storeF {i j : Nat} {zv : Value} [S : OneT P t zv] (hx : opv ρ x = some (.pointer (some ((addrAt p (i * sz)).add j)))) (hy : opv ρ y = some v) (h1 : v.oneCell' = true) (hp : Pick m (sl e sz p n c xs) r) (hi : i * sz + j < n * sz)
    (hg : guardB ops g ρ = some true) (hn : guardN K.N ops g = true) (k : WL P K ops Q rest ρ (sl e sz p n c (xs.set (i * sz + j) v) :: r)) :
    WL P K ops Q (⟨none, .store t x y, ty, pos, aft, g⟩ :: rest) ρ m := by
  refine WL_stepU hg hn fun a w hf hm => ?_
  obtain ⟨fp, ⟨hfp, hown⟩, _, hsp⟩ := hm.split hp
  rcases hown.2 with ⟨hv, h0⟩ | ⟨gg, cap, cur, hv, hb, hgg, hnc, hcm, hcs, ht⟩
  · subst h0; omega
  simp only [Value.slice.injEq] at hv
  obtain ⟨rfl, _, rfl⟩ := hv
  have ha : (addrAt (some ⟨gg, 0, none⟩) (i * sz)).add j = ⟨gg, i * sz + j, none⟩ := by
    unfold addrAt; show ((⟨gg, 0, none⟩ : Addr).add (i * sz)).add j = _; rw [add_at, add_at, Nat.zero_add]
  rw [ha] at hx
  have hle : n * sz ≤ c * sz := Nat.mul_le_mul_right _ hnc
  have hlt : i * sz + j < cur.size := by omega
  have h3 := run_store1 (P := P) (t := t) (w := w) (a := ⟨gg, i * sz + j, none⟩) (v := v) (u := cur[i * sz + j]) (S.size w) h1 (by simp [World.cell?, hgg, hlt]) (by simp [World.frozen?, hgg])
  refine ⟨sl e sz (some ⟨gg, 0, none⟩) n c (xs.set (i * sz + j) v) :: r, w.setCell ⟨gg, i * sz + j, none⟩ v, ?_, ?_, k⟩
  · simp only [execOp, hf.eval hx, hf.eval hy]
    simp [h3]
  · refine hsp [sl e sz (some ⟨gg, 0, none⟩) n c (xs.set (i * sz + j) v)] _ ⟨⟨rfl, rfl, rfl, by simp [World.setCell], fun k _ hF => Below.heap_setCell _ _ _ _ (by rw [hfp] at hF; simpa [blkOf] using hF)⟩, [gg], ⟨[gg], [], rfl, ⟨rfl, by rw [List.length_set]; exact hown.1, .inr ⟨gg, c, cur.setIfInBounds (i * sz + j) v, rfl, Nat.zero_le _, ?_, hnc, hcm, by simpa using hcs, ?_⟩⟩, rfl, by simp⟩, fun i hi _ => by rw [hfp]; exact hi⟩
    · simp [World.setCell, Array.getElem?_modify, hgg]
    · rw [← ht, Array.toList_setIfInBounds, List.take_set]
end
end Go.Proofs.YtngeooflfkpikaaGreatDoor
