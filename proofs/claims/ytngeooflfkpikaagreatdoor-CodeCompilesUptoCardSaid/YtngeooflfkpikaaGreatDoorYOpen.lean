/-
  The logic of walks: slices of nothing; a row, empty or not, behind a slice of the call's own. Of no program.
  Arguments as they come in: a value that the reader trod, as a thing that Lean knows, with what is known of the memory behind it. Of no program (but for the seat's own count of bulk).
-/
import Derived.Test.YtngeooflfkpikaaGreatDoorYGo
import Derived.Test.YtngeooflfkpikaaGreatDoorYPar
import Derived.Test.YtngeooflfkpikaaGreatDoorYRd
import Derived.Test.YtngeooflfkpikaaGreatDoorRows
import Derived.ProofKit
import Derived.OpenShut
import Derived.Deep.Slices
import Derived.Lib.SmallJoins
namespace Go.Proofs.YtngeooflfkpikaaGreatDoor
open Go.RowKit
section
variable {P : Program} {K : Cx} {ops : Array Oper} {ρ : Env} {m r : List HP} {t ty e : TypeId} {pos : String} {aft : Array Edge} {g : Option (Nat × Bool)} {x y : Operand} {Q : Exit → Act → World → Prop} {rest : List Oper} {d n c sz bytes : Nat} {zs xs : List Value} {p : Option Addr} {G : Rd}
theorem run_append_none0 {w : World} (base : Nat) (i : TypeInfo) (size : Nat) (ht : P.underlying t = some (.slice e)) (hi : P.info? e = some i) (v : Value) (c0 : Nat) (hown : w.ownsRow base e size v n xs) :
    (Builtin.append_ #[t, t] ty #[v, .slice none 0 c0]).run P w = .ok v w := by
  rcases hown.2 with ⟨rfl, rfl⟩ | ⟨g, cap, cur, rfl, _, _, hnc, _⟩
  · simp [Builtin.append_, run_underlying ht, sizeOf, typeInfo, hi, Builtin.lenOf, Builtin.firstCells]
  · simp [Builtin.append_, run_underlying ht, sizeOf, typeInfo, hi, Builtin.lenOf, Builtin.firstCells, hnc, storeCells]
/-- a row is appended, be it empty -/
theorem WL_appendRowG {α : Type} {enc : α → List Value} {ys : List α} {cp : Nat} {qp : Option Addr} [S : ElT P t e sz zs bytes] (hs : ∀ x, (enc x).length = sz) (h0 : 0 < sz) (h1 : ∀ x ∈ ys, ∀ u ∈ enc x, u.oneCell' = true) (hR : Row enc sz G qp cp ys) (hx : opv ρ x = some (.slice p n c)) (hy : opv ρ y = some (.slice qp ys.length cp)) (hp : Pick m (sl e sz p n c xs) r) {r2 : List HP} (hro : Pick m (ro K.w0 K.F G) r2)
    (hmax : (n + ys.length) * bytes ≤ 140737488355328) (hmax2 : n + ys.length ≤ 140737488355328) (hg : guardB ops g ρ = some true) (hn : (guardN K.N ops g && Nat.blt d K.N) = true)
    (k : ∀ q2 c2, WL P K ops Q rest ((d, .slice q2 (n + ys.length) c2) :: ρ) (sl e sz q2 (n + ys.length) c2 (xs ++ ys.flatMap enc) :: r)) : WL P K ops Q (⟨some d, .call ⟨.builtin .append, #[x, y], #[t, t]⟩, ty, pos, aft, g⟩ :: rest) ρ m := by
  cases qp with
  | none =>
    have hys : ys = [] := by
      cases ys with
      | nil => rfl
      | cons y ys => have := hR.some_lt (i := 0) (by simp); simp at this
    subst hys
    refine WL_step hg hn fun a w hf hm => ?_
    obtain ⟨i, z, hi, hz, hsz, hby, hzs⟩ := S.info
    refine ⟨_, _, w, run_bi hf hx hy (run_append_none0 0 i sz S.und hi (.slice p n c) cp (hm.slR hp)), ?_, k p c⟩
    simp only [List.length_nil, Nat.add_zero, List.flatMap_nil, List.append_nil]
    exact hm.ent (Ent.cons hp Ent.refl)
  | some q =>
    have hlen : ∀ ys : List α, (ys.flatMap enc).length = ys.length * sz := by
      intro ys
      induction ys with
      | nil => simp
      | cons y ys ih => rw [List.flatMap_cons, List.length_append, hs, ih, List.length_cons, Nat.succ_mul]; omega
    refine WL_step hg hn fun a w hf hm => ?_
    obtain ⟨q2, c2, w', hr, hh, _⟩ := append_core (P := P) (t := t) (ty := ty) (c' := cp) hm hp (row_cells hs h0 hR (hm.le hro)) (hlen ys) (fun u hu => by obtain ⟨z, hzm, hz⟩ := List.mem_flatMap.1 hu; exact h1 z hzm u hz) hmax hmax2
    exact ⟨_, _, w', run_bi hf hx hy hr, hh, k q2 c2⟩
end
end Go.Proofs.YtngeooflfkpikaaGreatDoor
namespace Go.Proofs.YtngeooflfkpikaaGreatDoor
open Go.RowKit Go.Joins Go.ChangeAt Go.Deep Go.ChangeShapes Go.WideShapes
/-! ## bulk -/
theorem bulk_part {H : Type} {d : DataW H} {l : List (DataW H)} (h : d ∈ l) : Rows.uptoBulk d ≤ Rows.uptoBulkAll l := by
  induction l with
  | nil => cases h
  | cons x r ih =>
    simp only [Rows.uptoBulkAll]
    cases List.mem_cons.1 h with
    | inl e => subst e; omega
    | inr e => have := ih e; omega
theorem bulk_one {H : Type} (d : DataW H) : 1 ≤ Rows.uptoBulk d := by
  cases d with
  | lit l => cases l <;> simp [Rows.uptoBulk]
  | nil => simp [Rows.uptoBulk]
  | ptr d => simp [Rows.uptoBulk]
  | slice elems spare => simp [Rows.uptoBulk]
  | agg parts => simp [Rows.uptoBulk]
  | iface t d => simp [Rows.uptoBulk]
  | map entries => simp [Rows.uptoBulk]
  | held h => simp [Rows.uptoBulk]
theorem bulk_len {H : Type} (l : List (DataW H)) : l.length ≤ Rows.uptoBulkAll l := by
  induction l with
  | nil => simp [Rows.uptoBulkAll]
  | cons x r ih => have := bulk_one x; simp only [Rows.uptoBulkAll, List.length_cons]; omega
theorem bulk_agg {H : Type} {d : DataW H} {l : List (DataW H)} (h : d ∈ l) : Rows.uptoBulk d ≤ Rows.uptoBulk (.agg l) := by
  have := bulk_part h; simp only [Rows.uptoBulk]; omega
theorem bulk_sl {H : Type} {d : DataW H} {l r : List (DataW H)} (h : d ∈ l) : Rows.uptoBulk d ≤ Rows.uptoBulk (.slice l r) := by
  have := bulk_part h; simp only [Rows.uptoBulk]; omega
theorem bulk_sll {H : Type} (l r : List (DataW H)) : l.length ≤ Rows.uptoBulk (.slice l r) := by
  have := bulk_len l; simp only [Rows.uptoBulk]; omega
/-- what a trod value of this type is: a thing of α, its cells, what the memory behind it holds, where its bulk is at most B -/
class Opn (P : Program) (t : TypeId) (α : outParam Type) (enc : outParam (α → List Value)) (sd : outParam (World → Nat → α → Prop)) : Prop where
  op : ∀ {H : Type} {en : TypeId × Value → H} {w : World} {base : Nat} {spare : Nat → Bool} {held : Bool} {fuel : Nat} {cs : List Value} {x : DataW H × List MemPlace} {B : Nat}, DataW.trod en P w base spare held fuel t cs = some x → Rows.uptoBulk x.1 ≤ B → ∃ a : α, cs = enc a ∧ sd w B a
def encI (i : Int) : List Value := [.int .i64 i]
def encS (l : List UInt8) : List Value := [.string ⟨l.toArray⟩]
theorem opn_int {P : Program} {t : TypeId} (h : P.underlying t = some (.int .i64)) : Opn P t Int encI (fun _ _ i => I64 i) := ⟨fun hx _ => by
  obtain ⟨n, e, _, hw⟩ := DataW.trod_int h hx
  exact ⟨n, e, bounds_i64 hw⟩⟩
theorem opn_string {P : Program} {t : TypeId} (h : P.underlying t = some .string) : Opn P t (List UInt8) encS (fun _ B l => l.length ≤ B) := ⟨fun hx hB => by
  obtain ⟨s, e, rfl, hs⟩ := DataW.trod_string h hx
  refine ⟨s.data.toList, ?_, ?_⟩
  · rw [e]; rfl
  · simp only [Rows.uptoBulk] at hB; omega⟩
/-- a slice's value: where, how long it might be, its elements -/
structure SlV (α : Type) where
  p : Option Addr
  c : Nat
  xs : List α
def SlV.val {α : Type} (s : SlV α) : Value := .slice s.p s.xs.length s.c
def SlV.enc {α : Type} (s : SlV α) : List Value := [s.val]
/-- what a slice's memory holds -/
structure SlS {α : Type} (enc : α → List Value) (sz : Nat) (S : World → Nat → α → Prop) (w : World) (B : Nat) (s : SlV α) : Prop where
  row : Row enc sz w.cell? s.p s.c s.xs
  each : ∀ x ∈ s.xs, S w B x
  len : s.xs.length ≤ B
theorem opn_slice {P : Program} {t e : TypeId} {α : Type} {enc : α → List Value} {sd : World → Nat → α → Prop} {sz : Nat} [Inhabited α] (E : Opn P e α enc sd) (h : P.underlying t = some (.slice e)) (hz : P.cellsOf e = sz) : Opn P t (SlV α) SlV.enc (SlS enc sz sd) := ⟨fun {H en w base spare held fuel cs x B} hx hB => by
  rcases open_slice h hx with ⟨rfl, _⟩ | ⟨a, len, cap, m, n, D, Pl, rfl, _, hl, hm, hmm, rfl, hel⟩
  · exact ⟨⟨none, 0, []⟩, rfl, Row.nil _ _ _, (fun x hx => by cases hx), Nat.zero_le _⟩
  · have hlm : len ≤ m := by rw [hmm]; split <;> omega
    obtain ⟨f, hf⟩ := choose_lt (n := len) (p := fun i u => (∃ cs', w.cells? base (a.add (i * P.cellsOf e)) (P.cellsOf e) = some cs' ∧ cs' = enc u) ∧ sd w B u) (fun i hi => by
      obtain ⟨cs', h1, h2⟩ := hel i (by omega)
      have hb : Rows.uptoBulk (D i) ≤ B := Nat.le_trans (bulk_sl (List.mem_map.2 ⟨i, List.mem_range.2 hi, rfl⟩)) hB
      obtain ⟨u, e1, e2⟩ := E.op h2 hb
      exact ⟨u, ⟨cs', h1, e1⟩, e2⟩)
    have hlen : ((List.range len).map f).length = len := by simp
    refine ⟨⟨some a, cap, (List.range len).map f⟩, by simp [SlV.enc, SlV.val], ⟨by rw [hlen]; exact hl, hm, fun _ => rfl, fun i u hu j v hv => ?_⟩, fun u hu => ?_, ?_⟩
    · rw [List.getElem?_map] at hu
      cases hr : (List.range len)[i]? with
      | none => rw [hr] at hu; cases hu
      | some i' =>
        rw [hr] at hu
        obtain ⟨hi, he⟩ := List.getElem?_eq_some_iff.1 hr
        simp at hi he
        subst he
        simp only [Option.map_some, Option.some.injEq] at hu
        subst hu
        obtain ⟨⟨cs', h1, rfl⟩, _⟩ := hf i hi
        obtain ⟨_, hlen', hget⟩ := World.cells?_some h1
        rw [hz] at hget hlen'
        rw [hz] at h1
        exact (hget j (by have := (List.getElem?_eq_some_iff.1 hv).1; omega)).trans hv
    · obtain ⟨i, hi, rfl⟩ := List.mem_map.1 hu
      rw [List.mem_range] at hi
      exact (hf i hi).2
    · have h2 := bulk_sll ((List.range len).map D) ((List.range (m - len)).map fun j => D (len + j))
      rw [hlen]; simp at h2 hB; omega⟩
/-- a struct's fields, one by one -/
theorem trod_fields {P : Program} {t : TypeId} {fs : Array Field} {H : Type} {en : TypeId × Value → H} {w : World} {base : Nat} {spare : Nat → Bool} {held : Bool} {fuel B : Nat} {cs : List Value} {x : DataW H × List MemPlace} (ht : P.underlying t = some (.struct fs)) (h : DataW.trod en P w base spare held fuel t cs = some x) (hB : Rows.uptoBulk x.1 ≤ B) :
    cs.length = P.cellsOf t ∧ ∃ n, ∀ (i : Nat) (f : Field), fs[i]? = some f → ∃ y, DataW.trod en P w base spare held n f.type ((cs.drop f.offset).take (P.cellsOf f.type)) = some y ∧ Rows.uptoBulk y.1 ≤ B := by
  obtain ⟨xs, n, _, rfl, hl, hlen, hf⟩ := DataW.trod_struct ht h
  refine ⟨hl, n, fun i f hi => ?_⟩
  have : i < fs.size := (Array.getElem?_eq_some_iff.1 hi).1
  have hx : xs[i]? = some xs[i] := List.getElem?_eq_getElem (by omega)
  exact ⟨_, (hf i f hi).trans hx, Nat.le_trans (bulk_agg (List.mem_map.2 ⟨_, List.mem_of_getElem? hx, rfl⟩)) hB⟩
theorem fld_open {P : Program} {e : TypeId} {α : Type} {enc : α → List Value} {sd : World → Nat → α → Prop} (E : Opn P e α enc sd) {fs : Array Field} {H : Type} {en : TypeId × Value → H} {w : World} {base : Nat} {spare : Nat → Bool} {held : Bool} {n B : Nat} {cs : List Value}
    (hf : ∀ (i : Nat) (f : Field), fs[i]? = some f → ∃ y, DataW.trod en P w base spare held n f.type ((cs.drop f.offset).take (P.cellsOf f.type)) = some y ∧ Rows.uptoBulk y.1 ≤ B) (i off sz : Nat) (h : (fs[i]?).map (fun f => (f.type, f.offset)) = some (e, off)) (hz : P.cellsOf e = sz) :
    ∃ a : α, (cs.drop off).take sz = enc a ∧ sd w B a := by
  cases hi : fs[i]? with
  | none => rw [hi] at h; cases h
  | some f =>
    rw [hi] at h
    simp only [Option.map_some, Option.some.injEq, Prod.mk.injEq] at h
    obtain ⟨h1, h2⟩ := h
    obtain ⟨y, hy, hb⟩ := hf i f hi
    rw [h1, h2, hz] at hy
    exact E.op hy hb
/-! ## arguments -/
theorem arg_slice {P : Program} {t e : TypeId} {α : Type} {sd : World → Nat → SlV α → Prop} (E : Opn P t (SlV α) SlV.enc sd) (h : P.underlying t = some (.slice e)) {H : Type} {en : TypeId × Value → H} {w : World} {base b0 B : Nat} {spare : Nat → Bool} {held : Bool} {r : Reach} {v : Value} {d : DataW H} {p : List MemPlace}
    (hv : Value.okWide P w r b0 t v) (hd : DataW.Trod en P w base spare held t v d p) (hB : Rows.uptoBulk d ≤ B) : ∃ a : SlV α, v = a.val ∧ sd w B a := by
  obtain ⟨q, l, c, rfl⟩ := okWide_slice h hv
  obtain ⟨n, hn⟩ := hd
  obtain ⟨a, e1, e2⟩ := E.op (x := (d, p)) hn hB
  exact ⟨a, by simpa [Value.cells, SlV.enc] using e1, e2⟩
end Go.Proofs.YtngeooflfkpikaaGreatDoor
