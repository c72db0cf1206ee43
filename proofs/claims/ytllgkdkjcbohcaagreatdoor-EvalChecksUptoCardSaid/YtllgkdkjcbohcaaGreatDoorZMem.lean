/-
  The logic of walks: slices and blocks that the call makes: make, append, stores, reading back. Of no program.
  The logic of walks: structs: literals, whole stores, results that lie in a variable. Of no program.
  The logic of walks: a region that draws its order, of which the first operations yield one value whatever comes first, the last of these may make things, and the others come in one order: it may be walked in the order of the text. Of no program.
-/
import Derived.Test.YtllgkdkjcbohcaaGreatDoorZOps
import Derived.StillTail
namespace Go.Proofs.YtllgkdkjcbohcaaGreatDoor
open Go.RowKit
/-! ## a slice of the call's own -/
def blkOf (p : Option Addr) : List Nat := match p with | none => [] | some a => [a.block]
theorem ownBlock_blkOf (p : Option Addr) (n c : Nat) : ∀ i, i ∈ blkOf p ↔ (Value.slice p n c).ownBlock = some i := by
  intro i
  cases p with
  | none => simp [blkOf, Value.ownBlock]
  | some a => simp [blkOf, Value.ownBlock, eq_comm]
theorem ownsRow_st {w w' : World} {e : TypeId} {sz n c : Nat} {p : Option Addr} {xs : List Value} (h : ∀ i ∈ blkOf p, w'.heap[i]? = w.heap[i]?) (k : w.ownsRow 0 e sz (.slice p n c) n xs) : w'.ownsRow 0 e sz (.slice p n c) n xs := by
  refine ⟨k.1, ?_⟩
  rcases k.2 with hn | ⟨g, cap, cur, hv, hb, hg, r⟩
  · exact .inl hn
  · refine .inr ⟨g, cap, cur, hv, hb, ?_, r⟩
    rw [h g ((ownBlock_blkOf p n c g).2 (by rw [hv]; rfl))]
    exact hg
/-- the slice value .slice p n c is the call's own, and holds xs (sz cells an element of type e) -/
def sl (e : TypeId) (sz : Nat) (p : Option Addr) (n c : Nat) (xs : List Value) : HP where
  p w fp := fp = blkOf p ∧ w.ownsRow 0 e sz (.slice p n c) n xs
  st w w' fp h := by rintro ⟨rfl, k⟩; exact ⟨rfl, ownsRow_st h k⟩
  lt w fp := by
    rintro ⟨rfl, k⟩ i hi
    exact (k.lt i ((ownBlock_blkOf p n c i).1 hi)).2
theorem Ent.nilown {m m' : List HP} {e : TypeId} {sz : Nat} (k : Ent m m') : Ent m (sl e sz none 0 0 [] :: m') := fun fp w ho => by
  obtain ⟨fp', h, hs⟩ := k fp w ho
  exact ⟨fp', ⟨[], fp', rfl, ⟨rfl, by simp, .inl ⟨rfl, rfl⟩⟩, h, by simp⟩, hs⟩
theorem Ent.sub {x b : HP} {m1 r2 : List HP} (hp : Pick m1 b r2) : Ent ([x] ++ m1) (x :: r2) := fun fp w ho => by
  obtain ⟨f1, f2, rfl, h1, h2, hd⟩ := ho
  obtain ⟨g1, g2, he, _, k2, _⟩ := hp.own h2
  refine ⟨f1 ++ g2, ⟨f1, g2, rfl, h1, k2, fun i hi hg => hd i hi ((he i).2 (.inr hg))⟩, fun i hi => ?_⟩
  rcases List.mem_append.1 hi with hi | hi
  · exact List.mem_append.2 (.inl hi)
  · exact List.mem_append.2 (.inr ((he i).2 (.inr hi)))
/-- what is known of an element type, for make and append -/
class ElT (P : Program) (t : TypeId) (e : outParam TypeId) (sz : outParam Nat) (zs : outParam (List Value)) (bytes : outParam Nat) : Prop where
  und : P.underlying t = some (.slice e)
  info : ∃ i z, P.info? e = some i ∧ i.zero = some z ∧ i.size = sz ∧ i.bytes = bytes ∧ z.cells = zs.toArray
  len : zs.length = sz
  pos : 0 < sz
theorem elT_of {P : Program} {t e : TypeId} {sz bytes : Nat} {z : Value} {zs : List Value} (hu : P.underlying t = some (.slice e)) (h : (P.info? e).map (fun i => (i.zero, i.size, i.bytes)) = some (some z, sz, bytes)) (hc : z.cells = zs.toArray) (hl : zs.length = sz) (hp : 0 < sz) : ElT P t e sz zs bytes :=
  let ⟨i, h1, h2, h3, h4⟩ := info_parts h
  ⟨hu, ⟨i, z, h1, h2, h3, h4, hc⟩, hl, hp⟩
theorem Holds.slR {w0 w : World} {F : List Nat} {m r : List HP} {e : TypeId} {sz n c : Nat} {p : Option Addr} {xs : List Value} (hh : Holds w0 F m w) (hp : Pick m (sl e sz p n c xs) r) : w.ownsRow 0 e sz (.slice p n c) n xs := by
  obtain ⟨_, _, h⟩ := hh.pick hp
  exact h
theorem Holds.ints {w0 w : World} {F : List Nat} {m r : List HP} {e : TypeId} {n c : Nat} {p : Option Addr} {xs : List Int} (hh : Holds w0 F m w) (hp : Pick m (sl e 1 p n c (xs.map (Value.int .i64))) r) (hr : ∀ x ∈ xs, I64 x) : n = xs.length ∧ IntsAt w p c xs := by
  have h := hh.slR hp
  have hn : n = xs.length := by have := h.1; simp at this; omega
  refine ⟨hn, ?_⟩
  rcases h.2 with ⟨hv, h0⟩ | ⟨g, cap, cur, hv, _, hg, hnc, hcm, hcs, ht⟩
  · simp only [Value.slice.injEq] at hv
    obtain ⟨rfl, _, rfl⟩ := hv
    have : xs = [] := List.eq_nil_of_length_eq_zero (by omega)
    subst this
    exact IntsAt.nil w
  · simp only [Value.slice.injEq] at hv
    obtain ⟨rfl, _, rfl⟩ := hv
    refine ⟨by omega, hcm, fun _ => rfl, fun i x hx => ?_, hr⟩
    have hi : i < xs.length := (List.getElem?_eq_some_iff.1 hx).1
    have h1 := h.cells (g := g) rfl i (.int .i64 x) (by simp [hx])
    exact h1
/-- the holds of a thing that turns: what is to be shown -/
theorem Holds.split {w0 w : World} {F : List Nat} {m r : List HP} {h : HP} (hh : Holds w0 F m w) (hp : Pick m h r) : ∃ fp, h.p w fp ∧ (∀ i ∈ fp, i < w0.heap.size → i ∈ F) ∧ ∀ m1 w', Holds w fp m1 w' → Holds w0 F (m1 ++ r) w' := by
  obtain ⟨fp, ho, hF⟩ := hh.own
  obtain ⟨f1, f2, he, k1, k2, kd⟩ := hp.own ho
  refine ⟨f1, k1, fun i hi h0 => hF i ((he i).2 (.inl hi)) h0, fun m1 w' k => ?_⟩
  obtain ⟨g1, hg, hgl⟩ := k.own
  have kk := k.keep
  have hlt2 := k2.lt
  refine ⟨⟨kk.os.trans hh.keep.os, kk.tape.trans hh.keep.tape, kk.output.trans hh.keep.output, Nat.le_trans hh.keep.size kk.size, fun i hi hF' => ?_⟩, g1 ++ f2, ?_, fun i hi hi0 => ?_⟩
  · rw [kk.block i (Nat.lt_of_lt_of_le hi hh.keep.size) (fun hf => hF' (hF i ((he i).2 (.inl hf)) hi))]
    exact hh.keep.block i hi hF'
  · exact Own.app hg (k2.keep (fun i hi => kk.block i (hlt2 i hi) (fun hf => kd i hf hi))) (fun i hi h2 => kd i (hgl i hi (hlt2 i h2)) h2)
  · rcases List.mem_append.1 hi with hi | hi
    · exact hF i ((he i).2 (.inl (hgl i hi (Nat.lt_of_lt_of_le hi0 hh.keep.size)))) hi0
    · exact hF i ((he i).2 (.inr hi)) hi0
theorem keep_grown {w w' : World} {fp : List Nat} {row : Option Nat} (h : w.grownBy w' row) (hr : ∀ i, row = some i → i ∈ fp) : Keep w fp w' :=
  ⟨h.os, h.tape, h.output, h.size, fun k hk hF => h.block k hk (fun e => hF (hr k e.symm))⟩
section ops
variable {P : Program} {K : Cx} {ρ : Env} {m r : List HP} {dst : Option Nat} {ty t t' : TypeId} {pos : String} {aft : Array Edge} {g : Option (Nat × Bool)} {v : Value} {x y z : Operand} {ops : Array Oper} {Q : Exit → Act → World → Prop} {rest : List Oper} {d : Nat}
  {e : TypeId} {sz n c bytes : Nat} {zs xs : List Value} {p : Option Addr}
/-- an element of a slice of the call's own -/
theorem y_ixo {i : Nat} {k : IntKind} [S : SlT P t e sz] (hx : opv ρ x = some (.slice p n c)) (hy : opv ρ y = some (.int k (i : Int))) (hp : Pick m (sl e sz p n c xs) r) (hi : i < n) : Yi P K ρ m ⟨dst, .indexAddr t x y, ty, pos, aft, g⟩ (.pointer (some (addrAt p (i * sz)))) := by
  refine ⟨fun a w hf hm => ?_⟩
  have h := hm.slR hp
  have hs : p.isSome = true := by
    rcases h.2 with ⟨hv, h0⟩ | ⟨g, cap, cur, hv, _⟩
    · omega
    · simp only [Value.slice.injEq] at hv; rw [hv.1]; rfl
  exact (y_indexN (P := P) (K := K) (ρ := ρ) (m := m) (dst := dst) (ty := ty) (pos := pos) (aft := aft) (g := g) hx hy hs hi).run a w hf hm
theorem y_ixo1 {i : Nat} {k : IntKind} [S : SlT P t e 1] (hx : opv ρ x = some (.slice p n c)) (hy : opv ρ y = some (.int k (i : Int))) (hp : Pick m (sl e 1 p n c xs) r) (hi : i < n) : Yi P K ρ m ⟨dst, .indexAddr t x y, ty, pos, aft, g⟩ (.pointer (some (addrAt p i))) := by
  have := y_ixo (t := t) (P := P) (K := K) (ρ := ρ) (m := m) (dst := dst) (ty := ty) (pos := pos) (aft := aft) (g := g) hx hy hp hi
  rwa [Nat.mul_one] at this
theorem WL_step (hg : guardB ops g ρ = some true) (hn : (guardN K.N ops g && Nat.blt d K.N) = true) {op : Op}
    (h : ∀ a w, Fits K.N K.D a ρ → Holds K.w0 K.F m w → ∃ v m' w', (execOp a.eval ⟨some d, op, ty, pos, aft, g⟩).run P w = .ok (.value v) w' ∧ Holds K.w0 K.F m' w' ∧ WL P K ops Q rest ((d, v) :: ρ) m') :
    WL P K ops Q (⟨some d, op, ty, pos, aft, g⟩ :: rest) ρ m := by
  refine ⟨fun a w hf hm => ?_⟩
  simp only [Bool.and_eq_true] at hn
  unfold wpList
  rw [if_pos (guard_wanted hf hg (guardN_spec hn.1))]
  refine .inl ?_
  obtain ⟨v, m', w', hr, hh, k⟩ := h a w hf hm
  unfold Oper.wp
  rw [hr, Oper.upon_value]
  exact k.run _ _ (hf.put (blt_lt hn.2) v) hh
theorem WL_stepU (hg : guardB ops g ρ = some true) (hn : guardN K.N ops g = true) {op : Op}
    (h : ∀ a w, Fits K.N K.D a ρ → Holds K.w0 K.F m w → ∃ m' w', (execOp a.eval ⟨none, op, ty, pos, aft, g⟩).run P w = .ok .skip w' ∧ Holds K.w0 K.F m' w' ∧ WL P K ops Q rest ρ m') :
    WL P K ops Q (⟨none, op, ty, pos, aft, g⟩ :: rest) ρ m := by
  refine ⟨fun a w hf hm => ?_⟩
  unfold wpList
  rw [if_pos (guard_wanted hf hg (guardN_spec hn))]
  refine .inl ?_
  obtain ⟨m', w', hr, hh, k⟩ := h a w hf hm
  unfold Oper.wp
  rw [hr, Oper.upon_skip]
  exact k.run _ _ hf hh
theorem run_bi {a : Act} {N : Nat} {D : List Deferred} (hf : Fits N D a ρ) {u v' : Value} {w w' : World} (hx : opv ρ x = some u) (hy : opv ρ y = some v') {q : Value} (h : (Builtin.append_ #[t, t] ty #[u, v']).run P w = .ok q w') :
    (execOp a.eval ⟨dst, .call ⟨.builtin .append, #[x, y], #[t, t]⟩, ty, pos, aft, g⟩).run P w = .ok (.value q) w' := by
  unfold execOp
  simp only [resolve, invoke, builtin, Sem.run_bind, Sem.run_pure, Result.andThen_ok, List.map_toArray, List.map_cons, List.map_nil, hf.eval hx, hf.eval hy, h]
/-- where the grown slice lies: where it lay, or in a new block -/
theorem append_where {e : TypeId} {i : TypeInfo} {z : Value} {size bytes : Nat} (w : World) (ht : P.underlying t = some (.slice e)) (hi : P.info? e = some i) (hz : i.zero = some z)
    (hsize : i.size = size) (hby : i.bytes = bytes) (hzs : z.cells.size = size) (hsz : 0 < size)
    (v : Value) (n : Nat) (xs : List Value) (hown : w.ownsRow 0 e size v n xs)
    (a : Addr) (m c : Nat) (news : List Value) (hl : news.length = m * size) (hnews : ∀ j u, news[j]? = some u → w.cell? (a.add j) = some u) (h1 : ∀ u ∈ news, u.oneCell' = true)
    (h63 : n + m ≤ maxLen) (hbytes : (n + m) * bytes ≤ 140737488355328) {v' : Value} {w' : World} (hr : (Builtin.append_ #[t, t] ty #[v, .slice (some a) m c]).run P w = .ok v' w') :
    ∀ g, v'.ownBlock = some g → v.ownBlock = some g ∨ w.heap.size ≤ g := by
  rcases hown.2 with ⟨rfl, rfl⟩ | ⟨g, cap, cur, rfl, hbg, hg, hnc, hcm, hcs, htake⟩
  · obtain ⟨v2, w2, r1, r2, _⟩ := run_append_own (P := P) w w.heap.size t ty e i z size bytes ht hi hz hsize hby hzs hsz (.slice none 0 0) 0 xs ⟨hown.1, .inl ⟨rfl, rfl⟩⟩ a m c news hl hnews h1 h63 hbytes (Nat.le_refl _)
    rw [hr] at r1
    injection r1 with r1 _
    subst r1
    intro g hg
    exact .inr (r2.lt g hg).1
  · subst hsize
    subst hby
    have hsmall : n + m ≤ 9223372036854775807 := by simp only [maxLen] at h63; omega
    by_cases hroom : n + m ≤ cap
    · have hfit : n * i.size + news.length ≤ cur.size := by rw [hl, hcs, ← Nat.add_mul]; exact Nat.mul_le_mul_right _ hroom
      have h2 := run_append_room (P := P) w t ty e i ht hi g n cap cur hg a m c news hl hnews h1 hroom hfit
      rw [hr] at h2
      injection h2 with h2 _
      subst h2
      intro g' hg'
      exact .inl hg'
    · have holds : ∀ j u, xs[j]? = some u → w.cell? ((⟨g, 0, none⟩ : Addr).add j) = some u := hown.cells (g := g) rfl
      have h2 := run_append_grow (P := P) w t ty e i z ht hi hz ⟨g, 0, none⟩ n cap xs hown.1 holds a m c news hl hnews (by omega) (by omega) (growslice_fits (by omega) hbytes)
      rw [hr] at h2
      injection h2 with h2 _
      subst h2
      intro g' hg'
      simp [Value.ownBlock] at hg'
      exact .inr (by omega)
/-- append of a block that was just built -/
theorem WL_append [S : ElT P t e sz zs bytes] {p' : Option Addr} {b n' c' : Nat} {cs : Array Value} {m1 r : List HP} (hx : opv ρ x = some (.slice p n c)) (hy : opv ρ y = some (.slice p' n' c')) (he : p' = some ⟨b, 0, none⟩)
    (hp : Pick m (sl e sz p n c xs) m1) (hp2 : Pick m1 (blk b e cs) r) (hl : cs.size = n' * sz) (h1' : cs.toList.all Value.oneCell' = true) (hmax : (n + n') * bytes ≤ 140737488355328) (hmax2 : n + n' ≤ 140737488355328)
    (hg : guardB ops g ρ = some true) (hn : (guardN K.N ops g && Nat.blt d K.N) = true) (k : ∀ q c'', WL P K ops Q rest ((d, .slice q (n + n') c'') :: ρ) (sl e sz q (n + n') c'' (xs ++ cs.toList) :: r)) :
    WL P K ops Q (⟨some d, .call ⟨.builtin .append, #[x, y], #[t, t]⟩, ty, pos, aft, g⟩ :: rest) ρ m := by
  refine WL_step hg hn fun a w hf hm => ?_
  obtain ⟨i, z, hi, hz, hsz, hby, hzs⟩ := S.info
  have h1 : ∀ u ∈ cs.toList, u.oneCell' = true := fun u hu => (List.all_eq_true.1 h1') u hu
  have hown := hm.slR hp
  obtain ⟨fp, ⟨hfp, _⟩, _, hsp⟩ := hm.split hp
  have hb : w.heap[b]? = some (.cells cs e (0, 0)) := by
    have h2 := hsp [] w ⟨Keep.refl _ _, [], rfl, by simp⟩
    exact h2.blk hp2
  subst he
  have hnews : ∀ (j : Nat) u, cs.toList[j]? = some u → w.cell? ((⟨b, 0, none⟩ : Addr).add j) = some u := fun j u hu => by
    have ha : (⟨b, 0, none⟩ : Addr).add j = ⟨b, j, none⟩ := by unfold Addr.add; split <;> simp [*]
    rw [ha]; simp only [World.cell?, hb]; simpa using hu
  have hzl : z.cells.size = sz := by rw [hzs]; simp [S.len]
  obtain ⟨v', w', hr, h2, h3, _⟩ := run_append_own (P := P) w 0 t ty e i z sz bytes S.und hi hz hsz hby hzl S.pos (.slice p n c) n xs hown ⟨b, 0, none⟩ n' c' cs.toList (by simpa using hl) hnews h1 (by unfold maxLen; omega) hmax (Nat.zero_le _)
  have hwh := append_where (P := P) w S.und hi hz hsz hby hzl S.pos (.slice p n c) n xs hown ⟨b, 0, none⟩ n' c' cs.toList (by simpa using hl) hnews h1 (by unfold maxLen; omega) hmax hr
  obtain ⟨q, c'', rfl⟩ : ∃ q c'', v' = .slice q (n + n') c'' := by
    rcases h2.2 with ⟨hv, h0⟩ | ⟨g, cap, cur, hv, _⟩
    · rw [h0]; exact ⟨_, _, hv⟩
    · exact ⟨_, _, hv⟩
  refine ⟨_, sl e sz q (n + n') c'' (xs ++ cs.toList) :: r, w', run_bi hf hx hy hr, ?_, k q c''⟩
  have hH : Holds w fp [sl e sz q (n + n') c'' (xs ++ cs.toList)] w' := by
    refine ⟨keep_grown h3 (fun i hi => by rw [hfp]; exact (ownBlock_blkOf p n c i).2 hi), blkOf q, ⟨blkOf q, [], by simp, ⟨rfl, h2⟩, rfl, by simp⟩, fun i hi hl => ?_⟩
    have h5 := (ownBlock_blkOf q (n + n') c'' i).1 hi
    rw [hfp]
    rcases hwh i h5 with h | h
    · exact (ownBlock_blkOf p n c i).2 h
    · omega
  exact (hsp _ w' hH).ent (Ent.sub (r2 := r) hp2)
/-! ## a literal slice -/
def partsV (ρ : Env) : List (Nat × Operand) → Option (List (Nat × Value))
  | [] => some []
  | (i, x) :: r => match opv ρ x with
    | none => none
    | some v => match partsV ρ r with
      | none => none
      | some vs => some ((i, v) :: vs)
theorem partsV_eval {N : Nat} {D : List Deferred} {a : Act} (hf : Fits N D a ρ) : ∀ {xs : List (Nat × Operand)} {vs : List (Nat × Value)}, partsV ρ xs = some vs → xs.map (fun (i, x) => (i, a.eval x)) = vs
  | [], vs, h => by simp [partsV] at h; subst h; rfl
  | (i, x) :: r, vs, h => by
    unfold partsV at h
    cases hx : opv ρ x with
    | none => rw [hx] at h; cases h
    | some u =>
      cases hr : partsV ρ r with
      | none => rw [hx, hr] at h; cases h
      | some us =>
        rw [hx, hr] at h
        injection h with h
        subst h
        rw [List.map_cons, partsV_eval hf hr]
        show (i, a.eval x) :: us = _
        rw [hf.eval hx]
/-- the parts, one behind the other -/
def bsl (sz : Nat) : Nat → List (Nat × Value) → Option (List Value)
  | _, [] => some []
  | k, (i, v) :: r => match Nat.beq i k, Nat.beq v.cells.size sz with
    | true, true => match bsl sz (k + 1) r with
      | none => none
      | some cs => some (v.cells.toList ++ cs)
    | _, _ => none
theorem fold_set : ∀ (l : List Value) (k off : Nat) (pre old post : List Value), pre.length = off + k → old.length = l.length → (l.zipIdx k).foldl (fun cs (c, j) => cs.setIfInBounds (off + j) c) (pre ++ old ++ post).toArray = (pre ++ l ++ post).toArray
  | [], k, off, pre, old, post, _, h => by
    have : old = [] := List.eq_nil_of_length_eq_zero h
    subst this; simp
  | c :: r, k, off, pre, [], post, _, h => by simp at h
  | c :: r, k, off, pre, o :: old, post, hp, h => by
    have h2 := fold_set r (k + 1) off (pre ++ [c]) old post (by simp; omega) (by simpa using h)
    rw [List.zipIdx_cons, List.foldl_cons]
    have h1 : ((pre ++ o :: old ++ post).toArray.setIfInBounds (off + k) c) = (pre ++ [c] ++ old ++ post).toArray := by
      rw [← hp]; simp
    show List.foldl _ ((pre ++ o :: old ++ post).toArray.setIfInBounds (off + k) c) _ = _
    rw [h1, h2]; simp
theorem fill_bsl {sz : Nat} : ∀ (parts : List (Nat × Value)) (k : Nat) (cells : Array Value) (cs : List Value), bsl sz k parts = some cs → (k + parts.length) * sz = cells.size →
    Instr.fill (fun i => some (i * sz, sz)) cells parts = some (cells.toList.take (k * sz) ++ cs).toArray
  | [], k, cells, cs, h, hs => by
    simp [bsl] at h
    subst h
    simp only [Instr.fill, List.append_nil]
    rw [List.take_of_length_le (by simp at hs ⊢; omega)]
  | (i, v) :: r, k, cells, cs, h, hs => by
    simp only [List.length_cons] at hs
    unfold bsl at h
    split at h
    · rename_i h1 h2
      have h1 := Nat.eq_of_beq_eq_true h1
      have h2 := Nat.eq_of_beq_eq_true h2
      subst h1
      cases hb : bsl sz (i + 1) r with
      | none => rw [hb] at h; cases h
      | some cs' =>
        rw [hb] at h
        injection h with h
        subst h
        have hle : i * sz + sz ≤ cells.size := by
          rw [← hs, show i + (r.length + 1) = (i + 1) + r.length by omega, Nat.add_mul, Nat.add_mul]; omega
        have hcond : ¬ (v.cells.size ≠ sz || i * sz + v.cells.size > cells.size) = true := by simp [h2]; omega
        simp only [Instr.fill]
        rw [if_neg hcond]
        have hcells : cells = (cells.toList.take (i * sz) ++ (cells.toList.drop (i * sz)).take sz ++ cells.toList.drop (i * sz + sz)).toArray := by
          rw [← List.drop_drop, List.append_assoc, List.take_append_drop, List.take_append_drop]
        have hf := fold_set v.cells.toList 0 (i * sz) (cells.toList.take (i * sz)) ((cells.toList.drop (i * sz)).take sz) (cells.toList.drop (i * sz + sz)) (by simp; omega) (by simp [h2]; omega)
        have hz : (v.cells.zipIdx.foldl (fun cs x => match x with | (c, j) => cs.setIfInBounds (i * sz + j) c) cells) = (cells.toList.take (i * sz) ++ v.cells.toList ++ cells.toList.drop (i * sz + sz)).toArray := by
          rw [← Array.foldl_toList, Array.toList_zipIdx, ← hf, ← hcells]
        rw [hz, fill_bsl r (i + 1) _ cs' hb (by simp; rw [← hs, h2]; have : (i + 1 + r.length) * sz = (i + (r.length + 1)) * sz := by congr 1; omega
                                                omega)]
        congr 1
        have h3 : (cells.toList.take (i * sz) ++ v.cells.toList).length = (i + 1) * sz := by simp [h2, Nat.add_mul]; omega
        rw [List.take_append, h3, Nat.sub_self, List.take_of_length_le (by rw [h3]; omega)]
        simp
    · cases h
theorem WL_bslice [S : ElT P t e sz zs bytes] {len : Nat} {parts : List (Nat × Operand)} {pvs : List (Nat × Value)} {cs : List Value} (hx : partsV ρ parts = some pvs) (hl : Nat.beq pvs.length len = true) (hc : bsl sz 0 pvs = some cs) (hs : Nat.ble (len * sz) 16777216 = true) (h0 : Nat.blt 0 len = true)
    (hg : guardB ops g ρ = some true) (hn : (guardN K.N ops g && Nat.blt d K.N) = true) (k : ∀ b, WL P K ops Q rest ((d, .slice (some ⟨b, 0, none⟩) len len) :: ρ) (blk b e cs.toArray :: m)) :
    WL P K ops Q (⟨some d, .buildSlice t len parts.toArray, ty, pos, aft, g⟩ :: rest) ρ m := by
  refine WL_step hg hn fun a w hf hm => ?_
  obtain ⟨i, z, hi, hz, hsz, hby, hzs⟩ := S.info
  have hl := Nat.eq_of_beq_eq_true hl
  have hs := Nat.le_of_ble_eq_true hs
  have h0 := Nat.le_of_ble_eq_true h0
  refine ⟨_, blk w.heap.size e cs.toArray :: m, w.alloc (.cells cs.toArray e), ?_, hm.new e cs.toArray, k w.heap.size⟩
  have hpv := partsV_eval hf hx
  have hne : ¬ len * sz = 0 := by have := Nat.mul_pos (show 0 < len by omega) S.pos; omega
  have hfl := fill_bsl (sz := sz) pvs 0 ((Array.range (len * sz)).map (z.cells[· % z.cells.size]!)) cs hc (by simp [hl])
  simp only [Nat.zero_mul, List.take_zero, List.nil_append] at hfl
  simp only [execOp, List.map_toArray, hpv, Instr.buildSlice]
  subst hsz
  simp [run_underlying S.und, sizeOf, typeInfo, hi, zeroValue, hz, newRow, go_sem]
  rw [if_neg (by omega), if_neg hne]
  unfold Value.cells at hfl
  rw [hfl]
  simp [go_sem]
/-! ## make, new variables, stores -/
class ZT (P : Program) (t : TypeId) (zs : outParam (List Value)) : Prop where
  ok : ∃ z, (∀ w, (zeroValue t).run P w = .ok z w) ∧ z.cells = zs.toArray
theorem WL_alloc [S : ZT P t zs] (hg : guardB ops g ρ = some true) (hn : (guardN K.N ops g && Nat.blt d K.N) = true) (k : ∀ b, WL P K ops Q rest ((d, .pointer (some ⟨b, 0, none⟩)) :: ρ) (blk b t zs.toArray :: m)) :
    WL P K ops Q (⟨some d, .alloc t, ty, pos, aft, g⟩ :: rest) ρ m := by
  refine WL_step hg hn fun a w hf hm => ?_
  obtain ⟨z, hz, hc⟩ := S.ok
  refine ⟨_, _, w.alloc (.cells zs.toArray t), ?_, hm.new t zs.toArray, k w.heap.size⟩
  have hz' := hz w
  simp only [execOp, Instr.alloc]
  simp only [go_sem, Sem.run_bind, hz', Result.andThen_ok]
  unfold Value.cells at hc
  simp [hc]
theorem made_one (z : Value) (n : Nat) : (madeCells #[z] (n * 1)).toList = List.replicate n z := by
  apply List.ext_getElem
  · simp [madeCells]
  · intro i h1 h2
    simp [madeCells, Nat.mod_one]
theorem run_store1 {P : Program} {t : TypeId} {w : World} {a : Addr} {v u : Value} (hs : (sizeOf t).run P w = .ok 1 w) (h1 : v.oneCell' = true) (hc : w.cell? a = some u) (hf : w.frozen? a = false) :
    (Instr.storeAt t (.pointer (some a)) v).run P w = .ok () (w.setCell a v) := by
  have h2 : v.cells = #[v] := by cases v <;> first | rfl | cases h1
  have h3 := run_store P w a v .plain h1
  rw [hc, hf] at h3
  simp [Instr.storeAt, Instr.sureAddr, storeVar, hs, h2, storeCells, add_zero, h3]
/-- a store into a block -/
theorem WL_store {b i : Nat} {T : TypeId} {cs : Array Value} {zv : Value} [S : OneT P t zv] (hx : opv ρ x = some (.pointer (some ⟨b, i, none⟩))) (hy : opv ρ y = some v) (h1 : v.oneCell' = true) (hp : Pick m (blk b T cs) r) (hi : Nat.blt i cs.toList.length = true)
    (hg : guardB ops g ρ = some true) (hn : guardN K.N ops g = true) (k : WL P K ops Q rest ρ (blk b T (cs.setIfInBounds i v) :: r)) :
    WL P K ops Q (⟨none, .store t x y, ty, pos, aft, g⟩ :: rest) ρ m := by
  refine WL_stepU hg hn fun a w hf hm => ?_
  have hb := hm.blk hp
  have hi := blt_lt hi
  refine ⟨_, w.setCell ⟨b, i, none⟩ v, ?_, hm.set hp i v, k⟩
  have h2 := run_store1 (P := P) (t := t) (w := w) (a := ⟨b, i, none⟩) (v := v) (u := cs[i]'(by simpa using hi)) (S.size w) h1 (by simp [World.cell?, hb]) (by simp [World.frozen?, hb])
  simp only [execOp, hf.eval hx, hf.eval hy]
  simp [h2]
/-- a store into a slice of the call's own -/
theorem WL_storeS {i : Nat} {zv : Value} [S : OneT P t zv] (hx : opv ρ x = some (.pointer (some (addrAt p i)))) (hy : opv ρ y = some v) (h1 : v.oneCell' = true) (hp : Pick m (sl e 1 p n c xs) r) (hi : i < n)
    (hg : guardB ops g ρ = some true) (hn : guardN K.N ops g = true) (k : WL P K ops Q rest ρ (sl e 1 p n c (xs.set i v) :: r)) :
    WL P K ops Q (⟨none, .store t x y, ty, pos, aft, g⟩ :: rest) ρ m := by
  refine WL_stepU hg hn fun a w hf hm => ?_
  obtain ⟨fp, ⟨hfp, hown⟩, _, hsp⟩ := hm.split hp
  obtain ⟨gg, rfl⟩ : ∃ gg, p = some ⟨gg, 0, none⟩ := by
    rcases hown.2 with ⟨hv, h0⟩ | ⟨g, cap, cur, hv, _⟩
    · omega
    · simp only [Value.slice.injEq] at hv; exact ⟨g, hv.1⟩
  have ha : addrAt (some ⟨gg, 0, none⟩) i = ⟨gg, i, none⟩ := by unfold addrAt; show (⟨gg, 0, none⟩ : Addr).add i = _; unfold Addr.add; split <;> simp [*]
  rw [ha] at hx
  have hc := hown.cellAt i (by omega)
  have hxl : xs.length = n := by have := hown.1; omega
  have hc' : w.cell? ⟨gg, i, none⟩ = some (xs[i]'(by omega)) := by rw [hc, List.getElem?_eq_getElem (by omega)]
  refine ⟨sl e 1 (some ⟨gg, 0, none⟩) n c (xs.set i v) :: r, w.setCell ⟨gg, i, none⟩ v, ?_, ?_, k⟩
  · have h2 := run_store1 (P := P) (t := t) (w := w) (a := ⟨gg, i, none⟩) (v := v) (S.size w) h1 hc' (hown.frozenAt i)
    simp only [execOp, hf.eval hx, hf.eval hy]
    simp [h2]
  · have hst := hown.stored i v
    refine hsp [sl e 1 (some ⟨gg, 0, none⟩) n c (xs.set i v)] _ ⟨⟨rfl, rfl, rfl, by simp [World.setCell], fun k _ hF => Below.heap_setCell _ _ _ _ (by rw [hfp] at hF; simpa [blkOf] using hF)⟩, [gg], ⟨[gg], [], rfl, ⟨rfl, ?_⟩, rfl, by simp⟩, fun i hi _ => by rw [hfp]; exact hi⟩
    exact (hown.stored i v).1
/-! ## calls that turn one thing -/
end ops
end Go.Proofs.YtllgkdkjcbohcaaGreatDoor
namespace Go.Proofs.YtllgkdkjcbohcaaGreatDoor
open Go.RowKit
/-- the parts of a struct literal, put in -/
def stfill (fs : List (Nat × Nat)) (cells : List Value) : List (Nat × Value) → Option (List Value)
  | [] => some cells
  | (i, v) :: r => match fs[i]? with
    | none => none
    | some (off, size) => match Nat.beq v.cells.toList.length size, Nat.ble (off + size) cells.length with
      | true, true => stfill fs (cells.take off ++ v.cells.toList ++ cells.drop (off + size)) r
      | _, _ => none
theorem fill_st {fs : List (Nat × Nat)} : ∀ {parts : List (Nat × Value)} {cells cs : List Value}, stfill fs cells parts = some cs → Instr.fill (fs.toArray[·]?) cells.toArray parts = some cs.toArray
  | [], cells, cs, h => by simp [stfill] at h; subst h; rfl
  | (i, v) :: r, cells, cs, h => by
    unfold stfill at h
    split at h
    · cases h
    · rename_i off size hf
      split at h
      · rename_i h1 h2
        have h1 := Nat.eq_of_beq_eq_true h1
        have h2 := Nat.le_of_ble_eq_true h2
        have h1' : v.cells.size = size := by rw [← Array.length_toList]; exact h1
        have hf' : fs.toArray[i]? = some (off, size) := by simpa using hf
        simp only [Instr.fill, hf']
        rw [if_neg (by simp [h1', h2])]
        have hcells : cells.toArray = (cells.take off ++ (cells.drop off).take size ++ cells.drop (off + size)).toArray := by
          rw [← List.drop_drop, List.append_assoc, List.take_append_drop, List.take_append_drop]
        have hz : (v.cells.zipIdx.foldl (fun cs x => match x with | (c, j) => cs.setIfInBounds (off + j) c) cells.toArray) = (cells.take off ++ v.cells.toList ++ cells.drop (off + size)).toArray := by
          have hq := fold_set v.cells.toList 0 off (cells.take off) ((cells.drop off).take size) (cells.drop (off + size)) (by simp; omega) (by simp [h1']; omega)
          rw [← Array.foldl_toList, Array.toList_zipIdx, ← hq, ← hcells]
        rw [hz]
        exact fill_st h
      · cases h
/-- some cells, set one behind the other -/
def setL (cs : Array Value) (i : Nat) : List Value → Array Value
  | [] => cs
  | v :: r => setL (cs.setIfInBounds i v) (i + 1) r
section ops
variable {P : Program} {K : Cx} {ρ : Env} {m r : List HP} {dst : Option Nat} {ty t t' : TypeId} {pos : String} {aft : Array Edge} {g : Option (Nat × Bool)} {v : Value} {x y z : Operand} {ops : Array Oper} {Q : Exit → Act → World → Prop} {rest : List Oper} {d : Nat}
  {fs : List (Nat × Nat)} {zs : List Value}
theorem y_build [S : StT P t fs zs] {parts : List (Nat × Operand)} {pvs : List (Nat × Value)} {cs : List Value} (hx : partsV ρ parts = some pvs) (hc : stfill fs zs pvs = some cs) : Yi P K ρ m ⟨dst, .build t parts.toArray, ty, pos, aft, g⟩ (.agg cs.toArray) := by
  refine ⟨fun a w hf hm => ?_⟩
  have h1 := fill_st hc
  rw [← S.built] at h1
  have h2 := run_build (P := P) w t pvs.toArray cs.toArray h1
  have hpv := partsV_eval hf hx
  simp only [execOp, List.map_toArray, hpv]
  simp [h2]
theorem run_cells {w0 : World} {F : List Nat} {b off : Nat} {T : TypeId} : ∀ (vs : List Value) (k : Nat) (cs : Array Value) (w : World), Holds w0 F (blk b T cs :: r) w → off + k + vs.length ≤ cs.size → vs.all Value.oneCell' = true →
    ∃ w', (storeCells ⟨b, off, none⟩ vs k).run P w = .ok () w' ∧ Holds w0 F (blk b T (setL cs (off + k) vs) :: r) w'
  | [], k, cs, w, hh, _, _ => ⟨w, by simp [storeCells], hh⟩
  | v :: vs, k, cs, w, hh, hl, h1 => by
    simp only [List.all_cons, Bool.and_eq_true] at h1
    simp only [List.length_cons] at hl
    have hb := hh.blk .here
    have ha : (⟨b, off, none⟩ : Addr).add k = ⟨b, off + k, none⟩ := by unfold Addr.add; split <;> simp [*]
    have h3 := run_store P w ⟨b, off + k, none⟩ v .plain h1.1
    have hlt : off + k < cs.size := by omega
    have hc : w.cell? ⟨b, off + k, none⟩ = some (cs[off + k]'hlt) := by simp [World.cell?, hb]
    have hf : w.frozen? ⟨b, off + k, none⟩ = false := by simp [World.frozen?, hb]
    rw [hc, hf] at h3
    obtain ⟨w', h4, h5⟩ := run_cells (off := off) vs (k + 1) (cs.setIfInBounds (off + k) v) _ (hh.set .here (off + k) v) (by simp; omega) h1.2
    refine ⟨w', ?_, h5⟩
    rw [storeCells, ha]
    simp only [Sem.run_bind, h3]
    simpa using h4
/-- a whole value, stored into a block -/
theorem WL_storeW {b i : Nat} {T : TypeId} {cs : Array Value} [S : StT P t fs zs] {vs : List Value} (hx : opv ρ x = some (.pointer (some ⟨b, i, none⟩))) (hy : opv ρ y = some (.agg vs.toArray)) (h1 : vs.all Value.oneCell' = true) (hp : Pick m (blk b T cs) r)
    (hl : Nat.beq vs.length zs.length = true) (hi : Nat.ble (i + vs.length) cs.toList.length = true)
    (hg : guardB ops g ρ = some true) (hn : guardN K.N ops g = true) (k : WL P K ops Q rest ρ (blk b T (setL cs i vs) :: r)) :
    WL P K ops Q (⟨none, .store t x y, ty, pos, aft, g⟩ :: rest) ρ m := by
  refine WL_stepU hg hn fun a w hf hm => ?_
  have hl := Nat.eq_of_beq_eq_true hl
  have hi := Nat.le_of_ble_eq_true hi
  obtain ⟨w', h2, h3⟩ := run_cells (P := P) (r := r) (off := i) (T := T) vs 0 cs w (hm.ent (Ent.cons hp Ent.refl)) (by simpa using hi) h1
  refine ⟨_, w', ?_, h3, k⟩
  simp only [execOp, hf.eval hx, hf.eval hy]
  simp [Instr.storeAt, Instr.sureAddr, storeVar, S.size, Value.cells, hl, h2]
theorem results_cell {fn : Func} {t : Tmp} (hr : fn.results = #[.cell t ty]) [S : StT P ty fs zs] {tmps : Array Value} {w : World} {a : Addr} (ht : tmps.getD t undef = .pointer (some a)) {cs : List Value} (hc : ∀ j v, cs[j]? = some v → w.cell? (a.add j) = some v) (hl : cs.length = zs.length) :
    (results fn tmps).run P w = .ok (.agg cs.toArray) w := by
  have h1 := run_loadCells_list (P := P) (w := w) a cs hc
  rw [hl] at h1
  have ht' : tmps[t]?.getD undef = .pointer (some a) := by rw [← Array.getD_eq_getD_getElem?]; exact ht
  simp [results, hr, ht', asAddr, loadVar, S.agg, S.size, h1]
/-- the result lies in a variable -/
theorem EX_retC {fn : Func} {R : Ending → World → Prop} {n b off : Nat} {T : TypeId} {cs : Array Value} [S : StT P ty fs zs] (hD : K.D = []) (hr : fn.results = #[.cell n ty]) (ht : ρ.find n = some (.pointer (some ⟨b, off, none⟩))) (hp : Pick m (blk b T cs) r) (hl : Nat.ble (off + zs.length) cs.toList.length = true)
    (h : ∀ w, Holds K.w0 K.F m w → R (.returned (.agg ((cs.toList.drop off).take zs.length).toArray)) w) : EX K (QBody P fn R) .ret ρ m := ⟨fun a w hf hm => by
  have h0 := Nat.le_of_ble_eq_true hl
  have h1 : ((cs.toList.drop off).take zs.length).length = zs.length := by simp at h0 ⊢; omega
  refine ⟨hf.defs.trans hD, _, results_cell (P := P) (ty := ty) hr (hf.get n _ ht) (rd_blk (K := K) hp (by rw [h1]) w hm) h1, h w hm⟩⟩
end ops
end Go.Proofs.YtllgkdkjcbohcaaGreatDoor
namespace Go.Proofs.YtllgkdkjcbohcaaGreatDoor
open Go.RowKit
abbrev Cl := World → Prop
def Cl.Closed (C : Cl) : Prop := ∀ W W', C W → Below W.heap.size W W' → C W'
section
variable {P : Program} {ops : Array Oper} {md : Region.Mode}
/-- one value, and nothing that was there has turned -/
def bUpon (P : Program) (w : World) (v : Value) : Result Next → Prop
  | .ok (.value u) w' => w' = w ∧ u = v
  | .ok (.enter f args) w' => w' = w ∧ Calls P f args w (fun e w'' => e = .returned v ∧ Below w.heap.size w w'')
  | _ => False
def bAt (P : Program) (o : Oper) (a : Act) (w : World) (v : Value) : Prop := bUpon P w v ((execOp a.eval o).run P w)
def mUpon (P : Program) {X : Type} (V : X → Value) (M : X → Cl) : Result Next → Prop
  | .ok (.value u) w' => ∃ x, u = V x ∧ M x w'
  | .ok (.enter f args) w' => Calls P f args w' (fun e w'' => ∃ x, e = .returned (V x) ∧ M x w'')
  | _ => False
/-- it makes things: what is known behind it is M x -/
def bMake (P : Program) (o : Oper) (a : Act) (C : Cl) (K : Act → Cl → Prop) : Prop :=
  ∃ (X : Type) (V : X → Value) (M : X → Cl), (∀ x, (M x).Closed) ∧ (∀ x W, M x W → C W) ∧
    (∀ W, C W → mUpon P V M ((execOp a.eval o).run P W)) ∧ ∀ x, K (a.put o.dst (V x)) (M x)
def mOp (P : Program) (ops : Array Oper) (C : Cl) (i : Nat) (K : Act → Cl → Prop) (a : Act) : Prop :=
  match ops[i]? with
  | none => K a C
  | some o => if Region.wanted o (yielded ops a.tmps) then (∃ v, (∀ w, C w → bAt P o a w v) ∧ K (a.put o.dst v) C) ∨ bMake P o a C K else K (a.put o.dst undef) C
theorem mOp_mono {C : Cl} {i : Nat} {a : Act} {K K' : Act → Cl → Prop} (h : ∀ a C, K a C → K' a C) (hh : mOp P ops C i K a) : mOp P ops C i K' a := by
  unfold mOp at *
  split
  · exact h _ _ (by simpa [*] using hh)
  · rename_i o ho
    simp only [ho] at hh
    split
    · rename_i hw
      simp only [hw, if_true] at hh
      rcases hh with ⟨v, h1, h2⟩ | ⟨X, V, M, h1, h2, h3, h4⟩
      · exact .inl ⟨v, h1, h _ _ h2⟩
      · exact .inr ⟨X, V, M, h1, h2, h3, fun x => h _ _ (h4 x)⟩
    · rename_i hw; simp only [hw] at hh; exact h _ _ hh
def wpAnyM (P : Program) (md : Region.Mode) (ops : Array Oper) (n : Nat) (L : Array Bool → Act → Cl → Prop) : Nat → Array Bool → Act → Cl → Prop
  | 0, listed, a, C => L listed a C
  | f + 1, listed, a, C => Region.ready md ops listed ≠ [] ∧ ∀ i ∈ Region.ready md ops listed, i < n ∧ mOp P ops C i (fun a' C' => wpAnyM P md ops n L f (listed.setIfInBounds i true) a' C') a
theorem wpOp_of_mOp {C : Cl} {i : Nat} {a : Act} {K : Act → Cl → Prop} {K' : Act → World → Prop} {Q' : Exit → Act → World → Prop} {w : World} (hcl : C.Closed) (hC : C w) (h : ∀ a w' (C' : Cl), C'.Closed → C' w' → K a C' → K' a w') (hh : mOp P ops C i K a) : wpOp P ops Q' i K' a w := by
  unfold mOp at hh
  unfold wpOp
  split
  · rename_i ho; simp only [ho] at hh; exact h _ _ _ hcl hC hh
  · rename_i o ho
    simp only [ho] at hh
    split
    · rename_i hw
      simp only [hw, if_true] at hh
      refine .inl ?_
      rcases hh with ⟨v, h1, h2⟩ | ⟨X, V, M, h1, h2, h3, h4⟩
      · have h3 := h1 w hC
        unfold bAt at h3
        unfold Oper.wp
        generalize (execOp a.eval o).run P w = r at *
        cases r with
        | ok nx w' =>
          cases nx <;> simp only [bUpon] at h3 <;> simp only [Oper.upon]
          case value u =>
            obtain ⟨e1, e2⟩ := h3
            rw [e1, e2]
            exact h _ _ _ hcl hC h2
          case enter f args =>
            obtain ⟨e1, hc⟩ := h3
            rw [e1]
            exact hc.mono fun e w'' ⟨he, hw''⟩ => by subst he; exact h _ _ _ hcl (hcl _ _ hC hw'') h2
        | halt x w' => simp only [bUpon] at h3
      · have h5 := h3 w hC
        unfold Oper.wp
        generalize (execOp a.eval o).run P w = r at *
        cases r with
        | ok nx w' =>
          cases nx <;> simp only [mUpon] at h5 <;> simp only [Oper.upon]
          case value u =>
            obtain ⟨x, he, hm⟩ := h5
            rw [he]; exact h _ _ _ (h1 x) hm (h4 x)
          case enter f args =>
            exact h5.mono fun e w'' ⟨x, he, hm⟩ => by subst he; exact h _ _ _ (h1 x) hm (h4 x)
        | halt x w' => simp only [mUpon] at h5
    · rename_i hw; simp only [hw] at hh; exact h _ _ _ hcl hC hh
theorem wpAny_of_M {n g : Nat} {L : Array Bool → Act → Cl → Prop} {Q' : Exit → Act → World → Prop} (hL : ∀ listed a w (C : Cl), C w → L listed a C → wpAny P md ops Q' g listed a w) :
    ∀ (f : Nat) (listed : Array Bool) (a : Act) (w : World) (C : Cl), C.Closed → C w → wpAnyM P md ops n L f listed a C → wpAny P md ops Q' (f + g) listed a w
  | 0, listed, a, w, C, _, hw, h => by rw [Nat.zero_add]; exact hL _ _ _ _ hw h
  | f + 1, listed, a, w, C, hcl, hw, h => by
    rw [show f + 1 + g = (f + g) + 1 by omega]
    exact ⟨fun h0 => absurd h0 h.1, fun i hi => wpOp_of_mOp hcl hw (fun a' w' C' hc' hw' h' => wpAny_of_M hL f _ a' w' C' hc' hw' h') (h.2 i hi).2⟩
def YieldsB (P : Program) (ops : Array Oper) (C : Cl) (o : Oper) (v : Value) (a : Act) : Prop :=
  (Region.wanted o (yielded ops a.tmps) = true ∧ ∀ w, C w → bAt P o a w v) ∨ (Region.wanted o (yielded ops a.tmps) = false ∧ v = undef)
theorem YieldsB.mOp {C : Cl} {i : Nat} {o : Oper} {v : Value} {a : Act} (hi : ops[i]? = some o) (hy : YieldsB P ops C o v a) {K : Act → Cl → Prop} (h : K (a.put o.dst v) C) : mOp P ops C i K a := by
  unfold Go.Proofs.YtllgkdkjcbohcaaGreatDoor.mOp
  simp only [hi]
  rcases hy with ⟨hw, hv⟩ | ⟨hw, rfl⟩
  · simp only [hw, if_true]; exact .inl ⟨v, hv, h⟩
  · simp only [hw, Bool.false_eq_true, if_false]; exact h
theorem YieldsB.of_same {C : Cl} {o : Oper} {v : Value} {a a' : Act} (hy : YieldsB P ops C o v a) (he : execOp a'.eval o = execOp a.eval o)
    (hw : Region.wanted o (yielded ops a'.tmps) = Region.wanted o (yielded ops a.tmps)) : YieldsB P ops C o v a' := by
  unfold YieldsB bAt at *
  rw [he, hw]
  exact hy
theorem YieldsB.sub {C C' : Cl} {o : Oper} {v : Value} {a : Act} (hy : YieldsB P ops C o v a) (h : ∀ W, C' W → C W) : YieldsB P ops C' o v a := by
  rcases hy with ⟨h1, h2⟩ | h1
  · exact .inl ⟨h1, fun w hw => h2 w (h w hw)⟩
  · exact .inr h1
theorem mOp_put {C : Cl} {j : Nat} {oi oj : Oper} {v : Value} (hj : ops[j]? = some oj) (hap : oi.apart ops oj = true)
    (hsi : ∀ cs b, oi.op ≠ .select cs b) (hsj : ∀ cs b, oj.op ≠ .select cs b) {K : Act → Cl → Prop} {a : Act}
    (hy : YieldsB P ops C oi v a) (h : mOp P ops C j K (a.put oi.dst v)) :
    mOp P ops C j (fun a' C' => YieldsB P ops C' oi v a' ∧ K (a'.put oi.dst v) C') a := by
  obtain ⟨h1, h2, h3⟩ := Oper.apart_spec hap
  have keep : ∀ (a : Act), YieldsB P ops C oi v a → ∀ u, YieldsB P ops C oi v (a.put oj.dst u) := fun a hy u =>
    hy.of_same (execOp_put oi hsi a oj.dst u h3) (wanted_put oi a oj.dst u h3)
  unfold mOp at *
  simp only [hj] at *
  rw [wanted_put oj a oi.dst v h1] at h
  split
  · rename_i hw
    simp only [hw, if_true] at h
    rcases h with ⟨u, hu, hn⟩ | ⟨X, V, M, m1, m2, m3, m4⟩
    · refine .inl ⟨u, fun w hw' => ?_, keep a hy u, by rw [← Act.put_comm a v u h2]; exact hn⟩
      have := hu w hw'
      unfold bAt at *
      rwa [execOp_put oj hsj a oi.dst v h1] at this
    · refine .inr ⟨X, V, M, m1, m2, fun W hW => ?_, fun x => ⟨(keep a hy _).sub (m2 x), by rw [← Act.put_comm a v (V x) h2]; exact m4 x⟩⟩
      have := m3 W hW
      rwa [execOp_put oj hsj a oi.dst v h1] at this
  · rename_i hw
    simp only [hw] at h
    exact ⟨keep a hy _, by rw [← Act.put_comm a v undef h2]; exact h⟩
theorem wpAnyM_first {n i : Nat} {oi : Oper} {v : Value} {L : Array Bool → Act → Cl → Prop} (hi : ops[i]? = some oi) (hsel : ∀ (j : Nat) (o : Oper) cs b, ops[j]? = some o → o.op ≠ .select cs b)
    (hs : Region.sinkB md ops n = true) (hc : Region.chainB md ops n = true) (hn : n < ops.size) (hin : i < n)
    (hdone : ∀ listed a C, L listed a C → ∀ j ∈ Region.ready md ops listed, n ≤ j) :
    ∀ (f : Nat) (listed : Array Bool) (a : Act) (C : Cl), HeadInv md ops n listed →
      (∀ j oj, ops[j]? = some oj → j ≠ i → listed.getD j true = false → (∀ e ∈ oj.after, Region.binds md e = true → e.on ≠ i) → oi.apart ops oj = true) →
      i ∈ Region.ready md ops listed → YieldsB P ops C oi v a →
      wpAnyM P md ops n L f (listed.setIfInBounds i true) (a.put oi.dst v) C → wpAnyM P md ops n L (f + 1) listed a C := by
  intro f
  induction f with
  | zero =>
    intro listed a C inv _ hr hy H
    have hun := (mem_ready.1 hr).1
    refine ⟨fun h => (by rw [h] at hr; cases hr), fun j hj => ?_⟩
    have hjn : j < n := by
      rcases Nat.lt_or_ge j n with h | h
      · exact h
      · exact absurd hj (tail_waits hs hc hn inv _ i rfl hin hun j h)
    refine ⟨hjn, ?_⟩
    by_cases hji : j = i
    · subst hji; exact hy.mOp hi H
    · have := hdone _ _ _ H j (ready_mono hj hji)
      omega
  | succ f ih =>
    intro listed a C inv hfree hr hy H
    have hun := (mem_ready.1 hr).1
    refine ⟨fun h => (by rw [h] at hr; cases hr), fun j hj => ?_⟩
    have hjn : j < n := by
      rcases Nat.lt_or_ge j n with h | h
      · exact h
      · exact absurd hj (tail_waits hs hc hn inv _ i rfl hin hun j h)
    refine ⟨hjn, ?_⟩
    by_cases hji : j = i
    · subst hji; exact hy.mOp hi H
    · have h1 := (H.2 j (ready_mono hj hji)).2
      obtain ⟨hjun, oj, hoj, hall⟩ := mem_ready.1 hj
      have hnot : ∀ e ∈ oj.after, Region.binds md e = true → e.on ≠ i := fun e he hb heq => by
        have h1 := hall e he hb
        rw [heq, getD_both hun] at h1
        cases h1
      have h2 := mOp_put hoj (hfree j oj hoj hji hjun hnot) (fun cs b => hsel i oi cs b hi) (fun cs b => hsel j oj cs b hoj) hy h1
      have hfree' : ∀ k ok, ops[k]? = some ok → k ≠ i → (listed.setIfInBounds j true).getD k true = false →
          (∀ e ∈ ok.after, Region.binds md e = true → e.on ≠ i) → oi.apart ops ok = true := fun k ok hk hki hun hno => by
        refine hfree k ok hk hki ?_ hno
        by_cases hjk : j = k
        · subst hjk; exact hjun
        · rw [getD_set_ne true hjk] at hun; exact hun
      refine mOp_mono (fun a' C' h3 => ih (listed.setIfInBounds j true) a' C' (inv.set hj hjn) hfree' (ready_mono hr (Ne.symm hji)) h3.1 ?_) h2
      rw [Array.setIfInBounds_comm _ _ hji]
      exact h3.2
/-- the walk in the order of the text: the last of these operations may make things -/
def wpHead (P : Program) (ops : Array Oper) (L : Act → Cl → Prop) : List Oper → Act → Cl → Prop
  | [], a, C => L a C
  | o :: rest, a, C => if Region.wanted o (yielded ops a.tmps) then (∃ v, (∀ w, C w → bAt P o a w v) ∧ wpHead P ops L rest (a.put o.dst v) C) ∨ (rest = [] ∧ bMake P o a C L) else wpHead P ops L rest (a.put o.dst undef) C
theorem wpAnyM_lex {n g : Nat} {Lq : Act → Cl → Prop} (hsel : Region.noSelect ops = true) (hs : Region.sinkB md ops n = true) (hc : Region.chainB md ops n = true) (hn : n < ops.size) :
    ∀ (l : List Oper) (k : Nat) (listed : Array Bool) (a : Act) (C : Cl), (∀ j, j < l.length → l[j]? = ops[k + j]?) → k + l.length = n → HeadInv md ops n listed →
    Region.lexHead md ops g l.length k listed = true → wpHead P ops Lq l a C →
    wpAnyM P md ops n (fun listed' a' C' => Region.seqB md ops g n listed' = true ∧ Lq a' C') l.length listed a C
  | [], k, listed, a, C, _, hk, _, hB, h => by
    have : k = n := by simpa using hk
    subst this
    exact ⟨by simpa [Region.lexHead] using hB, h⟩
  | o :: l, k, listed, a, C, hl, hk, inv, hB, h => by
    have h0 : ops[k]? = some o := by simpa using (hl 0 (by simp)).symm
    simp only [List.length_cons, Region.lexHead, Bool.and_eq_true] at hB
    obtain ⟨⟨hr, hf⟩, hB'⟩ := hB
    have hkn : k < n := by simp only [List.length_cons] at hk; omega
    have hr' : k ∈ Region.ready md ops listed := by simpa using hr
    have step : ∀ v, YieldsB P ops C o v a → wpHead P ops Lq l (a.put o.dst v) C → wpAnyM P md ops n (fun listed' a' C' => Region.seqB md ops g n listed' = true ∧ Lq a' C') (o :: l).length listed a C := fun v hy hK =>
      wpAnyM_first h0 (Region.noSelect_spec hsel) hs hc hn hkn (fun listed' a' C' hL => seqB_ready hL.1) l.length listed a C inv (Region.free_spec h0 hf) hr' hy
        (wpAnyM_lex hsel hs hc hn l (k + 1) _ _ C (fun j hj => by have := hl (j + 1) (by simp; omega); simpa [Nat.add_assoc, Nat.add_comm 1 j] using this) (by simp only [List.length_cons] at hk; omega) (inv.set hr' hkn) hB' hK)
    unfold wpHead at h
    by_cases hw : Region.wanted o (yielded ops a.tmps) = true
    · rw [if_pos hw] at h
      rcases h with ⟨v, h1, h2⟩ | ⟨rfl, hm⟩
      · exact step v (.inl ⟨hw, h1⟩) h2
      · have hkn' : k + 1 = n := by simpa using hk
        have hsq : Region.seqB md ops g n (listed.setIfInBounds k true) = true := by
          simp only [List.length_nil, Region.lexHead] at hB'
          rw [← hkn']; exact hB'
        have hun := (mem_ready.1 hr').1
        refine ⟨fun h => (by rw [h] at hr'; cases hr'), fun j hj => ?_⟩
        have hjn : j < n := by
          rcases Nat.lt_or_ge j n with h | h
          · exact h
          · exact absurd hj (tail_waits hs hc hn inv _ k rfl hkn hun j h)
        refine ⟨hjn, ?_⟩
        by_cases hji : j = k
        · subst hji
          unfold mOp
          simp only [h0, hw, if_true]
          obtain ⟨X, V, M, m1, m2, m3, m4⟩ := hm
          exact .inr ⟨X, V, M, m1, m2, m3, fun x => ⟨hsq, m4 x⟩⟩
        · have := seqB_ready hsq j (ready_mono hj hji)
          omega
    · rw [if_neg hw] at h
      exact step undef (.inr ⟨by simpa using hw, rfl⟩) h
/-- the theorem -/
theorem wp_region_mk {id : Nat} {Q : Exit → Act → World → Prop} {a : Act} {w : World} {l : List Oper} (C : Cl) (n : Nat) (hm : P.follows .mixedOrders = true) (hB : Region.lexTailB .any l.toArray n = true)
    (hcl : C.Closed) (hC : C w.drew)
    (h : wpHead P l.toArray (fun a' C' => ∀ w', C' w' → wpList P l.toArray Q (l.drop n) a' w') (l.take n) a C) : (Code.region id l.toArray true).wp P Q a w := by
  simp only [Region.lexTailB, Bool.and_eq_true, decide_eq_true_eq] at hB
  obtain ⟨⟨⟨⟨hsel, hn⟩, hs⟩, hc⟩, hlex⟩ := hB
  have hn' : n < l.length := by simpa using hn
  have htl : (l.take n).length = n := by simp; omega
  have hdl : (l.drop n).length = l.toArray.size - n := by simp
  have inv0 : HeadInv .any l.toArray n (Array.replicate l.toArray.size false) :=
    ⟨by simp, fun j oj _ hl => (by rw [getD_replicate_false] at hl; cases hl), fun t _ ht => getD_in (by simpa using ht) (getD_replicate_false _ _)⟩
  have H := wpAnyM_lex (md := .any) (g := l.toArray.size - n) hsel hs hc hn (l.take n) 0 _ a C (fun j hj => by
    have hj' : j < n := by rw [htl] at hj; exact hj
    simp [hj']) (by simpa using htl) inv0 (by rw [htl]; exact hlex) h
  refine wp_region_any hm ?_
  have := wpAny_of_M (Q' := Q) (g := l.toArray.size - n) (fun listed a' w' C' hw' hL => by
    have := wpAny_of_seq (md := .any) (Q' := Q) (l.drop n) n listed a' w' (fun j => by simp [List.getElem?_drop]) (by rw [hdl]; exact hL.1) (hL.2 w' hw')
    rwa [hdl] at this) _ _ _ _ C hcl hC H
  rw [htl, show n + (l.toArray.size - n) = l.toArray.size by omega] at this
  exact this
end
/-! ## the logic's rules -/
def LT (P : Program) (ops : Array Oper) (Q : Exit → Act → World → Prop) (l : List Oper) : Act → Cl → Prop := fun a C => ∀ w, C w → wpList P ops Q l a w
structure WB (P : Program) (K : Cx) (ops : Array Oper) (L : Act → Cl → Prop) (l : List Oper) (ρ : Env) (m : List HP) : Prop where
  run : ∀ a, Fits K.N K.D a ρ → wpHead P ops L l a (Holds K.w0 K.F m)
theorem Holds.closed (w0 : World) (F : List Nat) (m : List HP) : Cl.Closed (Holds w0 F m) := fun _ _ h hb => h.grow hb
theorem Holds.drop {w0 w : World} {F : List Nat} {m1 m : List HP} (h : Holds w0 F (m1 ++ m) w) : Holds w0 F m w := by
  obtain ⟨fp, ho, hF⟩ := h.own
  have key : ∀ (m1 : List HP) (fp : List Nat), Own (m1 ++ m) fp w → ∃ fp', Own m fp' w ∧ ∀ i ∈ fp', i ∈ fp := by
    intro m1
    induction m1 with
    | nil => intro fp h; exact ⟨fp, h, fun _ h => h⟩
    | cons x m1 ih =>
      rintro fp ⟨f1, f2, rfl, h1, h2, hd⟩
      obtain ⟨fp', h3, h4⟩ := ih f2 h2
      exact ⟨fp', h3, fun i hi => List.mem_append.2 (.inr (h4 i hi))⟩
  obtain ⟨fp', h1, h2⟩ := key m1 fp ho
  exact ⟨h.keep, fp', h1, fun i hi => hF i (h2 i hi)⟩
section rules
variable {P : Program} {K : Cx} {ρ : Env} {m r : List HP} {dst : Option Nat} {ty t t' : TypeId} {pos : String} {aft : Array Edge} {g : Option (Nat × Bool)} {v : Value} {x y z : Operand} {ops : Array Oper} {Q : Exit → Act → World → Prop} {rest tl : List Oper} {d : Nat} {op : Op} {L : Act → Cl → Prop}
  {e : TypeId} {sz n c bytes : Nat} {zs xs : List Value}
theorem CW_mk (n : Nat) {id : Nat} {l : List Oper} (hM : P.follows .mixedOrders = true) (hB : Region.lexTailB .any l.toArray n = true) (h : WB P K l.toArray (LT P l.toArray Q (l.drop n)) (l.take n) ρ m) : CW P K Q (.region id l.toArray true) ρ m :=
  ⟨fun a _ hf hm => wp_region_mk (Holds K.w0 K.F m) n hM hB (Holds.closed _ _ _) hm.drew (h.run a hf)⟩
theorem WB_op (hg : guardB ops g ρ = some true) (hn : (guardN K.N ops g && Nat.blt d K.N) = true) (h : Yi P K ρ m ⟨some d, op, ty, pos, aft, g⟩ v) (k : WB P K ops L rest ((d, v) :: ρ) m) :
    WB P K ops L (⟨some d, op, ty, pos, aft, g⟩ :: rest) ρ m := by
  refine ⟨fun a hf => ?_⟩
  simp only [Bool.and_eq_true] at hn
  unfold wpHead
  rw [if_pos (guard_wanted hf hg (guardN_spec hn.1))]
  refine .inl ⟨v, fun w hw => ?_, k.run _ (hf.put (blt_lt hn.2) v)⟩
  unfold bAt
  rw [h.run a w hf hw]
  exact ⟨rfl, rfl⟩
theorem run_bslice [S : ElT P t e sz zs bytes] {len : Nat} {parts : List (Nat × Operand)} {pvs : List (Nat × Value)} {cs : List Value} (hx : partsV ρ parts = some pvs) (hl : Nat.beq pvs.length len = true) (hc : bsl sz 0 pvs = some cs) (hs : Nat.ble (len * sz) 16777216 = true) (h0 : Nat.blt 0 len = true)
    {a : Act} {w : World} (hf : Fits K.N K.D a ρ) : (execOp a.eval ⟨some d, .buildSlice t len parts.toArray, ty, pos, aft, g⟩).run P w = .ok (.value (.slice (some ⟨w.heap.size, 0, none⟩) len len)) (w.alloc (.cells cs.toArray e)) := by
  obtain ⟨i, z, hi, hz, hsz, hby, hzs⟩ := S.info
  have hl := Nat.eq_of_beq_eq_true hl
  have hs := Nat.le_of_ble_eq_true hs
  have h0 := Nat.le_of_ble_eq_true h0
  have hpv := partsV_eval hf hx
  have hne : ¬ len * sz = 0 := by have := Nat.mul_pos (show 0 < len by omega) S.pos; omega
  have hfl := fill_bsl (sz := sz) pvs 0 ((Array.range (len * sz)).map (z.cells[· % z.cells.size]!)) cs hc (by simp [hl])
  simp only [Nat.zero_mul, List.take_zero, List.nil_append] at hfl
  simp only [execOp, List.map_toArray, hpv, Instr.buildSlice]
  subst hsz
  simp [run_underlying S.und, sizeOf, typeInfo, hi, zeroValue, hz, newRow, go_sem]
  rw [if_neg (by omega), if_neg hne]
  unfold Value.cells at hfl
  rw [hfl]
  simp [go_sem]
/-- not, of what is decided -/
theorem y_notD {p : Prop} [Decidable p] (hx : opv ρ x = some (.bool (decide p))) : Yi P K ρ m ⟨dst, .unOp .not t x, ty, pos, aft, g⟩ (.bool (decide (¬ p))) := by
  have := y_not (P := P) (K := K) (m := m) (dst := dst) (ty := ty) (t := t) (pos := pos) (aft := aft) (g := g) hx
  rwa [← decide_not] at this
/-- does it make or write memory? -/
def effOp : Op → Bool
  | .store .. | .buildSlice .. | .alloc .. | .box .. | .makeSlice .. | .insert .. | .mapUpdate .. | .entryStore .. | .makeMap .. | .defer .. => true
  | .call c => match c.callee with | .builtin .append => true | .builtin .copy => true | _ => false
  | _ => false
def effs (l : List Oper) : Bool := l.any fun o => effOp o.op
theorem CW_mkE (n : Nat) {id : Nat} {l : List Oper} (_ : effs l = true) (hM : P.follows .mixedOrders = true) (hB : Region.lexTailB .any l.toArray n = true) (h : WB P K l.toArray (LT P l.toArray Q (l.drop n)) (l.take n) ρ m) : CW P K Q (.region id l.toArray true) ρ m := CW_mk n hM hB h
theorem CW_quietE {id : Nat} {l : List Oper} (_ : effs l = false) (hM : P.follows .mixedOrders = true) (hB : Region.lexB .any l.toArray = true) (h : WQ P K l.toArray (fun a => ∀ w, Holds K.w0 K.F m w → Q .normal a w) l ρ m) : CW P K Q (.region id l.toArray true) ρ m := CW_quiet hM hB h
end rules
end Go.Proofs.YtllgkdkjcbohcaaGreatDoor
