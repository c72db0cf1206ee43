/-
  Arguments as they come in: a value that the reader trod, as a thing that Lean knows, with what is known of the memory behind it. Of no program (but for the seat's own count of bulk).
  Arguments as they come in: numbers.
  Arguments as they come in: arrays.
-/
import Derived.Test.YtllgkdkjcbohcaaGreatDoorZRd
import Derived.Test.YtllgkdkjcbohcaaGreatDoorRows
import Derived.ProofKit
import Derived.OpenShut
import Derived.Deep.Slices
import Derived.Lib.SmallJoins
namespace Go.Proofs.YtllgkdkjcbohcaaGreatDoor
open Go.RowKit Go.Joins Go.ChangeAt Go.Deep Go.ChangeShapes Go.WideShapes
/-! ## bulk -/
theorem bulk_part {H : Type} {d : DataW H} {l : List (DataW H)} (h : d ∈ l) : Rows.uptoBulk d ≤ Rows.uptoBulkAll l := by
  induction l with
  | nil => cases h
  | cons x r ih =>
    simp only [Rows.uptoBulkAll]
    cases List.mem_cons.1 h with
    | inl e => subst e; omega
    | inr e => have := ih e; omega
theorem bulk_one {H : Type} (d : DataW H) : 1 ≤ Rows.uptoBulk d := by
  cases d with
  | lit l => cases l <;> simp [Rows.uptoBulk]
  | nil => simp [Rows.uptoBulk]
  | ptr d => simp [Rows.uptoBulk]
  | slice elems spare => simp [Rows.uptoBulk]
  | agg parts => simp [Rows.uptoBulk]
  | iface t d => simp [Rows.uptoBulk]
  | map entries => simp [Rows.uptoBulk]
  | held h => simp [Rows.uptoBulk]
theorem bulk_len {H : Type} (l : List (DataW H)) : l.length ≤ Rows.uptoBulkAll l := by
  induction l with
  | nil => simp [Rows.uptoBulkAll]
  | cons x r ih => have := bulk_one x; simp only [Rows.uptoBulkAll, List.length_cons]; omega
theorem bulk_agg {H : Type} {d : DataW H} {l : List (DataW H)} (h : d ∈ l) : Rows.uptoBulk d ≤ Rows.uptoBulk (.agg l) := by
  have := bulk_part h; simp only [Rows.uptoBulk]; omega
theorem bulk_sl {H : Type} {d : DataW H} {l r : List (DataW H)} (h : d ∈ l) : Rows.uptoBulk d ≤ Rows.uptoBulk (.slice l r) := by
  have := bulk_part h; simp only [Rows.uptoBulk]; omega
theorem bulk_sll {H : Type} (l r : List (DataW H)) : l.length ≤ Rows.uptoBulk (.slice l r) := by
  have := bulk_len l; simp only [Rows.uptoBulk]; omega
/-- what a trod value of this type is: a thing of α, its cells, what the memory behind it holds, where its bulk is at most B -/
class Opn (P : Program) (t : TypeId) (α : outParam Type) (enc : outParam (α → List Value)) (sd : outParam (World → Nat → α → Prop)) : Prop where
  op : ∀ {H : Type} {en : TypeId × Value → H} {w : World} {base : Nat} {spare : Nat → Bool} {held : Bool} {fuel : Nat} {cs : List Value} {x : DataW H × List MemPlace} {B : Nat}, DataW.trod en P w base spare held fuel t cs = some x → Rows.uptoBulk x.1 ≤ B → ∃ a : α, cs = enc a ∧ sd w B a
def encI (i : Int) : List Value := [.int .i64 i]
def encBo (b : Bool) : List Value := [.bool b]
def encS (l : List UInt8) : List Value := [.string ⟨l.toArray⟩]
theorem opn_int {P : Program} {t : TypeId} (h : P.underlying t = some (.int .i64)) : Opn P t Int encI (fun _ _ i => I64 i) := ⟨fun hx _ => by
  obtain ⟨n, e, _, hw⟩ := DataW.trod_int h hx
  exact ⟨n, e, bounds_i64 hw⟩⟩
theorem opn_bool {P : Program} {t : TypeId} (h : P.underlying t = some .bool) : Opn P t Bool encBo (fun _ _ _ => True) := ⟨fun hx _ => by
  obtain ⟨b, e, _⟩ := DataW.trod_bool h hx
  exact ⟨b, e, trivial⟩⟩
theorem opn_string {P : Program} {t : TypeId} (h : P.underlying t = some .string) : Opn P t (List UInt8) encS (fun _ B l => l.length ≤ B) := ⟨fun hx hB => by
  obtain ⟨s, e, rfl, hs⟩ := DataW.trod_string h hx
  refine ⟨s.data.toList, ?_, ?_⟩
  · rw [e]; rfl
  · simp only [Rows.uptoBulk] at hB; omega⟩
/-- a slice's value: where, how long it might be, its elements -/
structure SlV (α : Type) where
  p : Option Addr
  c : Nat
  xs : List α
def SlV.val {α : Type} (s : SlV α) : Value := .slice s.p s.xs.length s.c
def SlV.enc {α : Type} (s : SlV α) : List Value := [s.val]
/-- what a slice's memory holds -/
structure SlS {α : Type} (enc : α → List Value) (sz : Nat) (S : World → Nat → α → Prop) (w : World) (B : Nat) (s : SlV α) : Prop where
  row : Row enc sz w.cell? s.p s.c s.xs
  each : ∀ x ∈ s.xs, S w B x
  len : s.xs.length ≤ B
theorem opn_slice {P : Program} {t e : TypeId} {α : Type} {enc : α → List Value} {sd : World → Nat → α → Prop} {sz : Nat} [Inhabited α] (E : Opn P e α enc sd) (h : P.underlying t = some (.slice e)) (hz : P.cellsOf e = sz) : Opn P t (SlV α) SlV.enc (SlS enc sz sd) := ⟨fun {H en w base spare held fuel cs x B} hx hB => by
  rcases open_slice h hx with ⟨rfl, _⟩ | ⟨a, len, cap, m, n, D, Pl, rfl, _, hl, hm, hmm, rfl, hel⟩
  · exact ⟨⟨none, 0, []⟩, rfl, Row.nil _ _ _, (fun x hx => by cases hx), Nat.zero_le _⟩
  · have hlm : len ≤ m := by rw [hmm]; split <;> omega
    obtain ⟨f, hf⟩ := choose_lt (n := len) (p := fun i u => (∃ cs', w.cells? base (a.add (i * P.cellsOf e)) (P.cellsOf e) = some cs' ∧ cs' = enc u) ∧ sd w B u) (fun i hi => by
      obtain ⟨cs', h1, h2⟩ := hel i (by omega)
      have hb : Rows.uptoBulk (D i) ≤ B := Nat.le_trans (bulk_sl (List.mem_map.2 ⟨i, List.mem_range.2 hi, rfl⟩)) hB
      obtain ⟨u, e1, e2⟩ := E.op h2 hb
      exact ⟨u, ⟨cs', h1, e1⟩, e2⟩)
    have hlen : ((List.range len).map f).length = len := by simp
    refine ⟨⟨some a, cap, (List.range len).map f⟩, by simp [SlV.enc, SlV.val], ⟨by rw [hlen]; exact hl, hm, fun _ => rfl, fun i u hu j v hv => ?_⟩, fun u hu => ?_, ?_⟩
    · rw [List.getElem?_map] at hu
      cases hr : (List.range len)[i]? with
      | none => rw [hr] at hu; cases hu
      | some i' =>
        rw [hr] at hu
        obtain ⟨hi, he⟩ := List.getElem?_eq_some_iff.1 hr
        simp at hi he
        subst he
        simp only [Option.map_some, Option.some.injEq] at hu
        subst hu
        obtain ⟨⟨cs', h1, rfl⟩, _⟩ := hf i hi
        obtain ⟨_, hlen', hget⟩ := World.cells?_some h1
        rw [hz] at hget hlen'
        rw [hz] at h1
        exact (hget j (by have := (List.getElem?_eq_some_iff.1 hv).1; omega)).trans hv
    · obtain ⟨i, hi, rfl⟩ := List.mem_map.1 hu
      rw [List.mem_range] at hi
      exact (hf i hi).2
    · have h2 := bulk_sll ((List.range len).map D) ((List.range (m - len)).map fun j => D (len + j))
      rw [hlen]; simp at h2 hB; omega⟩
/-- a struct's fields, one by one -/
theorem trod_fields {P : Program} {t : TypeId} {fs : Array Field} {H : Type} {en : TypeId × Value → H} {w : World} {base : Nat} {spare : Nat → Bool} {held : Bool} {fuel B : Nat} {cs : List Value} {x : DataW H × List MemPlace} (ht : P.underlying t = some (.struct fs)) (h : DataW.trod en P w base spare held fuel t cs = some x) (hB : Rows.uptoBulk x.1 ≤ B) :
    cs.length = P.cellsOf t ∧ ∃ n, ∀ (i : Nat) (f : Field), fs[i]? = some f → ∃ y, DataW.trod en P w base spare held n f.type ((cs.drop f.offset).take (P.cellsOf f.type)) = some y ∧ Rows.uptoBulk y.1 ≤ B := by
  obtain ⟨xs, n, _, rfl, hl, hlen, hf⟩ := DataW.trod_struct ht h
  refine ⟨hl, n, fun i f hi => ?_⟩
  have : i < fs.size := (Array.getElem?_eq_some_iff.1 hi).1
  have hx : xs[i]? = some xs[i] := List.getElem?_eq_getElem (by omega)
  exact ⟨_, (hf i f hi).trans hx, Nat.le_trans (bulk_agg (List.mem_map.2 ⟨_, List.mem_of_getElem? hx, rfl⟩)) hB⟩
theorem fld_open {P : Program} {e : TypeId} {α : Type} {enc : α → List Value} {sd : World → Nat → α → Prop} (E : Opn P e α enc sd) {fs : Array Field} {H : Type} {en : TypeId × Value → H} {w : World} {base : Nat} {spare : Nat → Bool} {held : Bool} {n B : Nat} {cs : List Value}
    (hf : ∀ (i : Nat) (f : Field), fs[i]? = some f → ∃ y, DataW.trod en P w base spare held n f.type ((cs.drop f.offset).take (P.cellsOf f.type)) = some y ∧ Rows.uptoBulk y.1 ≤ B) (i off sz : Nat) (h : (fs[i]?).map (fun f => (f.type, f.offset)) = some (e, off)) (hz : P.cellsOf e = sz) :
    ∃ a : α, (cs.drop off).take sz = enc a ∧ sd w B a := by
  cases hi : fs[i]? with
  | none => rw [hi] at h; cases h
  | some f =>
    rw [hi] at h
    simp only [Option.map_some, Option.some.injEq, Prod.mk.injEq] at h
    obtain ⟨h1, h2⟩ := h
    obtain ⟨y, hy, hb⟩ := hf i f hi
    rw [h1, h2, hz] at hy
    exact E.op hy hb
/-! ## arguments -/
theorem arg_slice {P : Program} {t e : TypeId} {α : Type} {sd : World → Nat → SlV α → Prop} (E : Opn P t (SlV α) SlV.enc sd) (h : P.underlying t = some (.slice e)) {H : Type} {en : TypeId × Value → H} {w : World} {base b0 B : Nat} {spare : Nat → Bool} {held : Bool} {r : Reach} {v : Value} {d : DataW H} {p : List MemPlace}
    (hv : Value.okWide P w r b0 t v) (hd : DataW.Trod en P w base spare held t v d p) (hB : Rows.uptoBulk d ≤ B) : ∃ a : SlV α, v = a.val ∧ sd w B a := by
  obtain ⟨q, l, c, rfl⟩ := okWide_slice h hv
  obtain ⟨n, hn⟩ := hd
  obtain ⟨a, e1, e2⟩ := E.op (x := (d, p)) hn hB
  exact ⟨a, by simpa [Value.cells, SlV.enc] using e1, e2⟩
end Go.Proofs.YtllgkdkjcbohcaaGreatDoor
namespace Go.Proofs.YtllgkdkjcbohcaaGreatDoor
open Go.RowKit
theorem oInt : Opn Tryz.prog 3 Int encI (fun _ _ i => I64 i) := opn_int Tryz.underlying3
end Go.Proofs.YtllgkdkjcbohcaaGreatDoor
namespace Go.Proofs.YtllgkdkjcbohcaaGreatDoor
open Go.RowKit
/-- an array as it lies in memory -/
structure ArrM where
  char : Bool
  shape : SlV Int
  data : SlV Int
def arrE (a : ArrM) : List Value := [.bool a.char, .slice a.shape.p a.shape.xs.length a.shape.c, .slice a.data.p a.data.xs.length a.data.c]
theorem oBool : Opn Tryz.prog 4 Bool encBo (fun _ _ _ => True) := opn_bool Tryz.underlying4
theorem oInts : Opn Tryz.prog 30 (SlV Int) SlV.enc (SlS encI 1 (fun _ _ i => I64 i)) := opn_slice oInt Tryz.underlying30 (by kernel_rfl)
def ArrS (w : World) (B : Nat) (a : ArrM) : Prop := SlS encI 1 (fun _ _ i => I64 i) w B a.shape ∧ SlS encI 1 (fun _ _ i => I64 i) w B a.data
set_option maxRecDepth 100000 in
theorem oArr : Opn Tryz.prog 43 ArrM arrE ArrS := ⟨fun {H en w base spare held fuel cs x B} h hB => by
  obtain ⟨hl, n, hf⟩ := trod_fields Tryz.underlying43 h hB
  obtain ⟨a0, e0, s0⟩ := fld_open oBool hf 0 0 1 rfl (by kernel_rfl)
  obtain ⟨a1, e1, s1⟩ := fld_open oInts hf 1 1 1 rfl (by kernel_rfl)
  obtain ⟨a2, e2, s2⟩ := fld_open oInts hf 2 2 1 rfl (by kernel_rfl)
  have hc : Tryz.prog.cellsOf 43 = 3 := by kernel_rfl
  rw [hc] at hl
  refine ⟨⟨a0, a1, a2⟩, ?_, s1, s2⟩
  match cs, hl with
  | [c0, c1, c2], _ =>
    simp [encBo] at e0
    simp [SlV.enc, SlV.val] at e1 e2
    simp [arrE, e0, e1, e2]⟩
end Go.Proofs.YtllgkdkjcbohcaaGreatDoor
