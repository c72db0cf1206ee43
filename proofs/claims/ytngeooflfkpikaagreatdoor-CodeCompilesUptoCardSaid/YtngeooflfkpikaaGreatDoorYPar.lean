/-
  Rows that are read: behind a call; a block of the call's own.
  An own slice that is only read from here on. Of no program.
  The logic of walks: a region that draws its order, of which parts that have nothing to do with one another go on side by side: each part is walked by itself. Of no program.
  The logic of walks: what a law does with what it is told. Of no program.
-/
import Derived.Test.YtngeooflfkpikaaGreatDoorYRd
import Derived.Test.YtngeooflfkpikaaGreatDoorYRule
import Derived.Deep.Slices
import Derived.Test.YtngeooflfkpikaaGreatDoorYPerm
import Derived.Test.YtngeooflfkpikaaGreatDoorYGo
namespace Go.Proofs.YtngeooflfkpikaaGreatDoor
open Go.RowKit
theorem Row.below {α : Type} {enc : α → List Value} {sz : Nat} {w w' : World} {p : Option Addr} {c : Nat} {xs : List α} (h : Row enc sz w.cell? p c xs) (hb : Below w.heap.size w w') : Row enc sz w'.cell? p c xs := h.mono fun a v e => by
  rw [World.cell?_of_block (hb.block _ (cell_lt e))]; exact e
/-- a block that holds cells of a row -/
theorem row_blk {α : Type} {enc : α → List Value} {sz : Nat} {w0 w : World} {F : List Nat} {m r : List HP} {b : Nat} {T : TypeId} {xs : List α} (hh : Holds w0 F m w) (hp : Pick m (blk b T (xs.flatMap enc).toArray) r) (hs : ∀ x, (enc x).length = sz) (hm : xs.length ≤ 1099511627776) : Row enc sz w.cell? (some ⟨b, 0, none⟩) xs.length xs := by
  have hb := hh.blk hp
  refine ⟨Nat.le_refl _, by unfold maxLen; omega, fun _ => rfl, fun i x hx j v hv => ?_⟩
  have e : (addrAt (some ⟨b, 0, none⟩) (i * sz)).add j = ⟨b, i * sz + j, none⟩ := by
    unfold addrAt
    show ((⟨b, 0, none⟩ : Addr).add (i * sz)).add j = _
    rw [Go.Deep.add_add]
    unfold Addr.add
    split <;> simp_all
  rw [e]
  simp only [World.cell?, hb]
  have hj : j < sz := by rw [← hs x]; exact (List.getElem?_eq_some_iff.1 hv).1
  have key : ∀ (l : List α) (i : Nat), l[i]? = some x → (l.flatMap enc)[i * sz + j]? = some v := by
    intro l
    induction l with
    | nil => intro i h; simp at h
    | cons y l ih =>
      intro i h
      rw [List.flatMap_cons]
      cases i with
      | zero =>
        simp at h; subst h
        rw [Nat.zero_mul, Nat.zero_add, List.getElem?_append_left (by rw [hs]; exact hj)]; exact hv
      | succ i =>
        rw [List.getElem?_append_right (by rw [hs, Nat.succ_mul]; omega), hs, show (i + 1) * sz + j - sz = i * sz + j by rw [Nat.succ_mul]; omega]
        exact ih i (by simpa using h)
  simpa using key xs i hx
theorem flat_get {α : Type} {enc : α → List Value} {sz j : Nat} {x : α} {v : Value} (hs : ∀ x, (enc x).length = sz) (hv : (enc x)[j]? = some v) : ∀ (l : List α) (i : Nat), l[i]? = some x → (l.flatMap enc)[i * sz + j]? = some v := by
  have hj : j < sz := by rw [← hs x]; exact (List.getElem?_eq_some_iff.1 hv).1
  intro l
  induction l with
  | nil => intro i h; simp at h
  | cons y l ih =>
    intro i h
    rw [List.flatMap_cons]
    cases i with
    | zero =>
      simp at h; subst h
      rw [Nat.zero_mul, Nat.zero_add, List.getElem?_append_left (by rw [hs]; exact hj)]; exact hv
    | succ i =>
      rw [List.getElem?_append_right (by rw [hs, Nat.add_mul]; omega), hs]
      rw [show (i + 1) * sz + j - sz = i * sz + j by rw [Nat.add_mul]; omega]
      exact ih i (by simpa using h)
theorem flat_len {α : Type} {enc : α → List Value} {sz : Nat} (hs : ∀ x, (enc x).length = sz) : ∀ l : List α, (l.flatMap enc).length = l.length * sz
  | [] => by simp
  | x :: l => by rw [List.flatMap_cons, List.length_append, hs, flat_len hs l, List.length_cons, Nat.add_mul]; omega
/-- a slice of the call's own, as a row to be read -/
theorem row_sl {α : Type} {enc : α → List Value} {sz : Nat} (hs : ∀ x, (enc x).length = sz) (h0 : 0 < sz) {w0 w : World} {F : List Nat} {m r : List HP} {e : TypeId} {n c : Nat} {p : Option Addr} {xs : List α} (hh : Holds w0 F m w) (hp : Pick m (sl e sz p n c (xs.flatMap enc)) r) :
    n = xs.length ∧ Row enc sz w.cell? p c xs := by
  have h := hh.slR hp
  have hn : n = xs.length := by
    have := h.1
    rw [flat_len hs] at this
    exact (Nat.eq_of_mul_eq_mul_right h0 this).symm
  refine ⟨hn, ?_⟩
  rcases h.2 with ⟨hv, h00⟩ | ⟨g, cap, cur, hv, _, hg, hnc, hcm, hcs, ht⟩
  · simp only [Value.slice.injEq] at hv
    obtain ⟨rfl, _, rfl⟩ := hv
    have : xs = [] := List.eq_nil_of_length_eq_zero (by omega)
    subst this
    exact Row.nil _ _ _
  · simp only [Value.slice.injEq] at hv
    obtain ⟨rfl, _, rfl⟩ := hv
    refine ⟨by omega, hcm, fun _ => rfl, fun i x hx j v hv => ?_⟩
    have h1 := h.cells (g := g) rfl (i * sz + j) v (flat_get hs hv xs i hx)
    unfold addrAt
    show w.cell? (((⟨g, 0, none⟩ : Addr).add (i * sz)).add j) = some v
    rw [Go.Deep.add_add]
    exact h1
end Go.Proofs.YtngeooflfkpikaaGreatDoor
namespace Go.Proofs.YtngeooflfkpikaaGreatDoor
open Go.RowKit
theorem addr_block (g i j : Nat) : ((addrAt (some ⟨g, 0, none⟩) i).add j).block = g := by
  unfold addrAt
  show (((⟨g, 0, none⟩ : Addr).add i).add j).block = g
  rw [Go.Deep.add_add]
  unfold Addr.add
  split <;> rfl
/-- an own slice is only read from here on -/
theorem Holds.toRo {α : Type} {enc : α → List Value} {sz : Nat} (hs : ∀ x, (enc x).length = sz) (h0 : 0 < sz) {w0 w : World} {F : List Nat} {G : Rd} {e : TypeId} {n c : Nat} {p : Option Addr} {xs : List α} {r : List HP}
    (hh : Holds w0 F (ro w0 F G :: sl e sz p n c (xs.flatMap enc) :: r) w) (hF : ∀ fp, Own r fp w → ∀ i ∈ F, i ∈ fp) :
    ∃ G', Rd.grow w0 G G' ∧ Row enc sz G' p c xs ∧ Holds w0 F (ro w0 F G' :: r) w := by
  have hrow := (row_sl hs h0 hh (.there .here)).2
  have hF0 : ∀ fp, (sl e sz p n c (xs.flatMap enc)).p w fp → ∀ i ∈ fp, w0.heap.size ≤ i := by
    rintro fp ⟨rfl, _⟩ i hi
    obtain ⟨fp0, ⟨fG, f12, rfl, hG, ⟨f1, f2, rfl, ⟨hf1, _⟩, h2, hd2⟩, hd⟩, hFF⟩ := hh.own
    refine Nat.le_of_not_lt fun hlt => ?_
    have hi1 : i ∈ f1 := by rw [hf1]; exact hi
    exact hd2 i hi1 (hF _ h2 i (hFF i (by simp [hi1]) hlt))
  obtain ⟨fp, ⟨hfp, hown⟩, hb, hn, hsp⟩ := hh.freeze hF0
  refine ⟨fun a => if a.block ∈ fp then w.cell? a else G a, ⟨fun a v ea => ?_, fun a v ea => ?_⟩, ⟨hrow.le, hrow.max, hrow.some', fun i x hx j v hv => ?_⟩, hsp _ fun a v ea => ?_⟩
  · show (if a.block ∈ fp then _ else _) = _
    rw [if_neg (hn a v ea)]; exact ea
  · by_cases h : a.block ∈ fp
    · exact .inr (hb _ h).1
    · simp only [if_neg h] at ea; exact .inl ea
  · have hc := hrow.cell i x hx j v hv
    have hblk : ((addrAt p (i * sz)).add j).block ∈ fp := by
      rcases hown.2 with ⟨hv', h00⟩ | ⟨g, cap, cur, hv', _⟩
      · have hn' : n = xs.length := (row_sl hs h0 hh (.there .here)).1
        have : xs = [] := List.eq_nil_of_length_eq_zero (by omega)
        subst this
        simp at hx
      · simp only [Value.slice.injEq] at hv'
        obtain ⟨rfl, _, rfl⟩ := hv'
        rw [addr_block, hfp]
        simp [blkOf]
    show (if _ ∈ fp then _ else _) = _
    rw [if_pos hblk]; exact hc
  · by_cases h : a.block ∈ fp
    · simp only [if_pos h] at ea; exact .inr ⟨h, ea⟩
    · simp only [if_neg h] at ea; exact .inl ea
end Go.Proofs.YtngeooflfkpikaaGreatDoor
namespace Go.Proofs.YtngeooflfkpikaaGreatDoor
open Go.RowKit
/-! ## what is ready -/
section
variable {P : Program} {K : Cx} {ops : Array Oper} {m0 : List HP}
/-- one operation, wherever else memory turns -/
def Stp (P : Program) (K : Cx) (ops : Array Oper) (m0 : List HP) (i : Nat) (ρ : Env) (m : List HP) (next : Env → List HP → Prop) : Prop :=
  ∃ (d : Nat) (op : Op) (ty : TypeId) (pos : String) (aft : Array Edge), ops[i]? = some ⟨some d, op, ty, pos, aft, none⟩ ∧ d < K.N ∧
    ∃ (X : Type) (V : X → Value) (M : X → List HP), (∀ r a W, (∃ pm, Ent r (pm ++ m0)) → Fits K.N K.D a ρ → Holds K.w0 K.F (m ++ r) W →
      pUpon P (fun _ _ => False) ⟨some d, op, ty, pos, aft, none⟩ V (fun x => Holds K.w0 K.F (M x ++ r)) ((execOp a.eval ⟨some d, op, ty, pos, aft, none⟩).run P W)) ∧
      ∀ x, next ((d, V x) :: ρ) (M x)
theorem Stp.mono {i : Nat} {ρ : Env} {m : List HP} {n1 n2 : Env → List HP → Prop} (h : ∀ ρ m, n1 ρ m → n2 ρ m) (k : Stp P K ops m0 i ρ m n1) : Stp P K ops m0 i ρ m n2 := by
  obtain ⟨d, op, ty, pos, aft, h1, h2, X, V, M, h3, h4⟩ := k
  exact ⟨d, op, ty, pos, aft, h1, h2, X, V, M, h3, fun x => h _ _ (h4 x)⟩
theorem Stp.ent {i : Nat} {ρ : Env} {m m' : List HP} {n1 : Env → List HP → Prop} (e : Ent m m') (k : Stp P K ops m0 i ρ m' n1) : Stp P K ops m0 i ρ m n1 := by
  obtain ⟨d, op, ty, pos, aft, h1, h2, X, V, M, h3, h4⟩ := k
  refine ⟨d, op, ty, pos, aft, h1, h2, X, V, M, fun r a W hr hf hm => h3 r a W hr hf (hm.ent ?_), h4⟩
  intro fp w ho
  obtain ⟨f1, f2, rfl, k1, k2, kd⟩ := Own.split ho
  obtain ⟨f3, k3, hs⟩ := e f1 w k1
  have app : ∀ (m1 : List HP) (f1 f2 : List Nat), Own m1 f1 w → Own r f2 w → (∀ i ∈ f1, i ∉ f2) → Own (m1 ++ r) (f1 ++ f2) w := by
    intro m1
    induction m1 with
    | nil => intro f1 f2 h h2 _; have : f1 = [] := h; subst this; exact h2
    | cons x m1 ih =>
      rintro f1 f2 ⟨a, b, rfl, ha, hb, hd⟩ h2 hd2
      exact ⟨a, b ++ f2, by simp, ha, ih _ _ hb h2 (fun i hi => hd2 i (List.mem_append.2 (.inr hi))), fun i hi h => by
        rcases List.mem_append.1 h with h | h
        · exact hd i hi h
        · exact hd2 i (List.mem_append.2 (.inl hi)) h⟩
  refine ⟨f3 ++ f2, app _ _ _ k3 k2 (fun i hi h => kd i (hs i hi) h), fun i hi => ?_⟩
  rcases List.mem_append.1 hi with hi | hi
  · exact List.mem_append.2 (.inl (hs i hi))
  · exact List.mem_append.2 (.inr hi)
/-! ## one part behind another -/
def subs : List Nat → List (List Nat)
  | [] => [[]]
  | a :: l => subs l ++ (subs l).map (a :: ·)
/-! ## how it ends -/
/-! ## the region -/
end
/-! ## appends, whatever the new cells are read from -/
section
variable {P : Program} {K : Cx} {ops : Array Oper} {m0 : List HP} {ρ : Env} {m r : List HP} {t ty e : TypeId} {pos : String} {aft : Array Edge} {g : Option (Nat × Bool)} {x y : Operand} {Q : Exit → Act → World → Prop} {rest : List Oper} {d i n c n' c' sz bytes : Nat} {zs xs news : List Value} {p : Option Addr} {q : Addr} {next : Env → List HP → Prop} {G : Rd}
theorem append_core [S : ElT P t e sz zs bytes] {w0 w : World} {F : List Nat} (hm : Holds w0 F m w) (hp : Pick m (sl e sz p n c xs) r) (hnews : ∀ j u, news[j]? = some u → w.cell? (q.add j) = some u) (hl : news.length = n' * sz) (h1 : ∀ u ∈ news, u.oneCell' = true) (hmax : (n + n') * bytes ≤ 140737488355328) (hmax2 : n + n' ≤ 140737488355328) :
    ∃ q2 c2 w', (Builtin.append_ #[t, t] ty #[.slice p n c, .slice (some q) n' c']).run P w = .ok (.slice q2 (n + n') c2) w' ∧ Holds w0 F (sl e sz q2 (n + n') c2 (xs ++ news) :: r) w' ∧ ∀ i ∈ blkOf q2, i ∈ blkOf p ∨ w.heap.size ≤ i := by
  obtain ⟨i, z, hi, hz, hsz, hby, hzs⟩ := S.info
  have hown := hm.slR hp
  obtain ⟨fp, ⟨hfp, _⟩, _, hsp⟩ := hm.split hp
  have hzl : z.cells.size = sz := by rw [hzs]; simp [S.len]
  obtain ⟨v', w', hr, h2, h3, _⟩ := run_append_own (P := P) w 0 t ty e i z sz bytes S.und hi hz hsz hby hzl S.pos (.slice p n c) n xs hown q n' c' news hl hnews h1 (by unfold maxLen; omega) hmax (Nat.zero_le _)
  have hwh := append_where (P := P) w S.und hi hz hsz hby hzl S.pos (.slice p n c) n xs hown q n' c' news hl hnews h1 (by unfold maxLen; omega) hmax hr
  obtain ⟨q2, c2, rfl⟩ : ∃ q c'', v' = .slice q (n + n') c'' := by
    rcases h2.2 with ⟨hv, h0⟩ | ⟨g, cap, cur, hv, _⟩
    · rw [h0]; exact ⟨_, _, hv⟩
    · exact ⟨_, _, hv⟩
  have hw2 : ∀ i ∈ blkOf q2, i ∈ blkOf p ∨ w.heap.size ≤ i := fun i hi => by
    rcases hwh i ((ownBlock_blkOf q2 (n + n') c2 i).1 hi) with h | h
    · exact .inl ((ownBlock_blkOf p n c i).2 h)
    · exact .inr h
  refine ⟨q2, c2, w', hr, ?_, hw2⟩
  have hH : Holds w fp [sl e sz q2 (n + n') c2 (xs ++ news)] w' := by
    refine ⟨keep_grown h3 (fun i hi => by rw [hfp]; exact (ownBlock_blkOf p n c i).2 hi), blkOf q2, ⟨blkOf q2, [], by simp, ⟨rfl, h2⟩, rfl, by simp⟩, fun i hi hl => ?_⟩
    have h5 := (ownBlock_blkOf q2 (n + n') c2 i).1 hi
    rw [hfp]
    rcases hwh i h5 with h | h
    · exact (ownBlock_blkOf p n c i).2 h
    · omega
  exact hsp _ w' hH
/-- cells of a row, one behind the other -/
theorem row_cells {α : Type} {enc : α → List Value} {ys : List α} {cp : Nat} (hs : ∀ x, (enc x).length = sz) (h0 : 0 < sz) (hR : Row enc sz G (some q) cp ys) {w : World} (hle : Rd.le G w.cell?) : ∀ j u, (ys.flatMap enc)[j]? = some u → w.cell? (q.add j) = some u := by
  intro j u hu
  have hlen : ∀ ys : List α, (ys.flatMap enc).length = ys.length * sz := by
    intro ys
    induction ys with
    | nil => simp
    | cons y ys ih => rw [List.flatMap_cons, List.length_append, hs, ih, List.length_cons, Nat.succ_mul]; omega
  have hj : j < ys.length * sz := by rw [← hlen]; exact (List.getElem?_eq_some_iff.1 hu).1
  have hi : j / sz < ys.length := (Nat.div_lt_iff_lt_mul h0).2 hj
  have key : ∀ (ys : List α) (j : Nat) (u : Value), (ys.flatMap enc)[j]? = some u → ∃ y, ys[j / sz]? = some y ∧ (enc y)[j % sz]? = some u := by
    intro ys
    induction ys with
    | nil => intro j u h; simp at h
    | cons y ys ih =>
      intro j u h
      rw [List.flatMap_cons] at h
      by_cases hj : j < sz
      · rw [List.getElem?_append_left (by rw [hs]; exact hj)] at h
        rw [Nat.div_eq_of_lt hj, Nat.mod_eq_of_lt hj]
        exact ⟨y, rfl, h⟩
      · rw [List.getElem?_append_right (by rw [hs]; omega), hs] at h
        obtain ⟨y', h1, h2⟩ := ih _ _ h
        have e1 : (j - sz + sz) / sz = (j - sz) / sz + 1 := Nat.add_div_right _ h0
        rw [Nat.sub_add_cancel (by omega)] at e1
        have e2 : j % sz = (j - sz) % sz := by rw [← Nat.add_mod_right (j - sz) sz, Nat.sub_add_cancel (by omega)]
        rw [e1, e2]
        exact ⟨y', h1, h2⟩
  obtain ⟨y, h1, h2⟩ := key ys j u hu
  have h3 := hR.cell _ y h1 _ u h2
  have h4 := hle _ _ h3
  have e : (addrAt (some q) (j / sz * sz)).add (j % sz) = q.add j := by
    unfold addrAt
    show (q.add (j / sz * sz)).add (j % sz) = _
    rw [Go.Deep.add_add]
    rw [show j / sz * sz + j % sz = j by rw [Nat.mul_comm]; exact Nat.div_add_mod j sz]
  rw [e] at h4
  exact h4
/-! ## things of which the call itself made the blocks -/
/-! ## steps of a part -/
theorem Pick.app {l : List HP} {h : HP} (hp : Pick m h r) : Pick (m ++ l) h (r ++ l) := by
  induction hp with
  | here => exact .here
  | there _ ih => exact .there ih
end
end Go.Proofs.YtngeooflfkpikaaGreatDoor
namespace Go.Proofs.YtngeooflfkpikaaGreatDoor
open Go.RowKit
/-- all that there is may be read -/
theorem Holds.whole {w0 W : World} {m : List HP} (hh : Holds w0 [] m W) : Holds w0 [] [ro w0 [] W.cell?] W := by
  have hb := hh.below
  refine ⟨hh.keep, (List.range (W.heap.size - w0.heap.size)).map (w0.heap.size + ·) ++ [], ⟨_, [], rfl, ⟨fun i hi => ?_, fun a v e => ?_⟩, rfl, by simp⟩, fun i hi h0 => ?_⟩
  · obtain ⟨j, hj, rfl⟩ := List.mem_map.1 hi
    rw [List.mem_range] at hj; omega
  · have hl := cell_lt e
    by_cases h : a.block < w0.heap.size
    · exact .inr ⟨h, by simp, by rw [← World.cell?_of_block (hb.block _ h)]; exact e⟩
    · exact .inl ⟨List.mem_map.2 ⟨a.block - w0.heap.size, List.mem_range.2 (by omega), by omega⟩, e⟩
  · rw [List.append_nil] at hi
    obtain ⟨j, hj, rfl⟩ := List.mem_map.1 hi
    omega
/-- a call out of a law: what it left may be read -/
theorem WL_callA {P : Program} {K : Cx} {ρ : Env} {m : List HP} {ops : Array Oper} {Q : Exit → Act → World → Prop} {rest : List Oper} {d : Nat} {ty : TypeId} {pos : String} {aft : Array Edge} {g : Option (Nat × Bool)} {f : FuncId} [S : FnT P f] {xs : List Operand} {ats : Array TypeId} {vs : List Value} (hF : K.F = []) (hx : opvs ρ xs = some vs) (hg : guardB ops g ρ = some true)
    (hn : (guardN K.N ops g && Nat.blt d K.N) = true) {X : Type} {V : X → Value} {Φ : X → Rd → Prop} (hc : ∀ w, Holds K.w0 K.F m w → Calls P f vs.toArray w fun e w' => ∃ x, e = .returned (V x) ∧ Below w.heap.size w w' ∧ Φ x w'.cell?)
    (k : ∀ x G, Φ x G → WL P K ops Q rest ((d, V x) :: ρ) [ro K.w0 K.F G]) : WL P K ops Q (⟨some d, .call ⟨.value (.func f), xs.toArray, ats⟩, ty, pos, aft, g⟩ :: rest) ρ m := by
  obtain ⟨N, D, w0, F⟩ := K
  dsimp only at hF
  subst hF
  exact WL_call (X := X × Rd) hx hg hn hc (fun x => V x.1) (fun x => [ro w0 [] x.2]) (fun x => Φ x.1 x.2) (fun w e w' hm ⟨x, he, hb, hp⟩ => ⟨(x, w'.cell?), hp, he, (hm.grow hb).whole⟩) (fun x hx => k x.1 x.2 hx)
theorem Rd.le_below {w w' : World} (h : Below w.heap.size w w') : Rd.le w.cell? w'.cell? := fun _ _ e => (h.cell (cell_lt e)).trans e
/-- a block as a slice of the call's own, whatever size an element has -/
theorem Ent.blkSlN {m r m' : List HP} {b n sz : Nat} {e : TypeId} {cs : Array Value} {xs : List Value} (hp : Pick m (blk b e cs) r) (hc : cs = xs.toArray) (hn : xs.length = n * sz) (hm : n ≤ 1099511627776) (kk : Ent r m') : Ent m (sl e sz (some ⟨b, 0, none⟩) n n xs :: m') := fun fp w ho => by
  obtain ⟨f1, f2, he, ⟨rfl, hb⟩, k2, kd⟩ := hp.own ho
  obtain ⟨f3, h3, hs⟩ := kk f2 w k2
  subst hc
  refine ⟨[b] ++ f3, ⟨[b], f3, rfl, ⟨rfl, by rw [hn], .inr ⟨b, n, _, rfl, Nat.zero_le _, hb, Nat.le_refl _, by unfold maxLen; omega, by simp [hn], by rw [← hn]; simp⟩⟩, h3, fun i hi h => kd i hi (hs i h)⟩, fun i hi => ?_⟩
  rcases List.mem_append.1 hi with hi | hi
  · exact (he i).2 (.inl hi)
  · exact (he i).2 (.inr (hs i hi))
end Go.Proofs.YtngeooflfkpikaaGreatDoor
