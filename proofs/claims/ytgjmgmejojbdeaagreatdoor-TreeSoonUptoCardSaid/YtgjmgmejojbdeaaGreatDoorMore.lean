/-
  The logic of walks: more operations: parts of strings, characters as strings, structs compared, fields of struct values, type assertions. Of no program.
-/
import Derived.Test.YtgjmgmejojbdeaaGreatDoorRd
import Derived.Laws.StructEq
import Derived.Laws.Runes
import Derived.Laws.Strings3
import Derived.Laws.DeepStrings4
import Derived.ChangeKeysEq
namespace Go.Proofs.YtgjmgmejojbdeaaGreatDoor
open Go.RowKit

theorem drop_cons {α : Type} {l : List α} {k : Nat} {x : α} (h : l[k]? = some x) : l.drop k = x :: l.drop (k + 1) := by
  obtain ⟨hk, rfl⟩ := List.getElem?_eq_some_iff.1 h
  exact (List.drop_eq_getElem_cons hk)
theorem get_some {α : Type} {l : List α} {k : Nat} (h : k < l.length) (d : α) : l[k]? = some (l.getD k d) := by rw [List.getElem?_eq_getElem h]; simp [h]

theorem bytes_extract (l : List UInt8) (a b : Nat) : (⟨l.toArray⟩ : ByteArray).extract a b = ⟨((l.take b).drop a).toArray⟩ := by
  apply ByteArray.ext
  rw [ByteArray.data_extract]
  apply Array.toList_inj.1
  simp [List.drop_take]

/-- a type's zero -/
class ZV (P : Program) (t : TypeId) (zv : outParam Value) : Prop where
  zero : ∀ w, (zeroValue t).run P w = .ok zv w

/-- how a field of a struct is compared -/
inductive FK
  | i | s | b
def fkOf (P : Program) (t : TypeId) : Option FK := match P.underlying t with
  | some (.int _) => some .i
  | some .string => some .s
  | some .bool => some .b
  | _ => none
def flatK (P : Program) : List Field → Nat → Option (List FK)
  | [], _ => some []
  | f :: r, n => if f.offset = n ∧ f.name ≠ "_" then match fkOf P f.type, flatK P r (n + 1) with
      | some k, some ks => some (k :: ks)
      | _, _ => none
    else none
def cellE : FK → Value → Value → Option Bool
  | .i, .int k a, .int k' b => if k = k' then some (decide (a = b)) else none
  | .s, .string a, .string b => some (decide (a.data.toList = b.data.toList))
  | .b, .bool a, .bool b => some (decide (a = b))
  | _, _, _ => none
def cellsE : List FK → List Value → List Value → Option Bool
  | [], _, _ => some true
  | k :: ks, x :: xs, y :: ys => match cellE k x y, cellsE ks xs ys with
    | some b, some c => some (b && c)
    | _, _ => none
  | _, _, _ => none
/-- a struct whose fields are numbers, strings and truths -/
class EqT (P : Program) (t : TypeId) (ks : outParam (List FK)) : Prop where
  und : P.underlying t = some (.struct (P.fieldsOf t))
  held : P.stoodInHeld t = false
  guard : P.eqGuardType P.depth t = false
  flat : flatK P (P.fieldsOf t).toList 0 = some ks

theorem run_cellE {P : Program} (w : World) (d : Nat) {t : TypeId} {k : FK} (h : fkOf P t = some k) {x y : Value} {b : Bool} (hb : cellE k x y = some b) : (Op.equalIn (d + 1) t x y).run P w = .ok b w := by
  unfold fkOf at h
  cases hu : P.underlying t with
  | none => rw [hu] at h; cases h
  | some D =>
    rw [hu] at h
    cases k with
    | i =>
      cases D <;> simp at h
      cases x <;> simp [cellE] at hb
      cases y <;> simp at hb
      obtain ⟨rfl, rfl⟩ := hb
      rw [run_equalIn_int w d t _ _ _ _ hu, ibeq]
    | s =>
      cases D <;> simp at h
      cases x <;> simp [cellE] at hb
      cases y <;> simp at hb
      subst hb
      rw [run_equalIn_string w d t _ _ hu, ByteArray.toList_eq, ByteArray.toList_eq, lbeq]
      congr 1
      rw [decide_eq_decide]
      exact Array.toList_inj
    | b =>
      cases D <;> simp at h
      cases x <;> simp [cellE] at hb
      cases y <;> simp at hb
      subst hb
      rw [run_equalIn_bool' w d t _ _ hu, bbeq]
theorem part_fk {P : Program} {t : TypeId} {k : FK} (h : fkOf P t = some k) {xs : Array Value} {n : Nat} {v : Value} (hv : xs[n]? = some v) (w : World) : (part t xs n).run P w = .ok v w := by
  refine run_part_plain (P := P) w ?_ hv
  unfold fkOf at h
  unfold Program.plainKey
  split at h <;> simp_all
theorem run_flat {P : Program} (w : World) (d : Nat) (xs ys : Array Value) : ∀ (fs : List Field) (n : Nat) (ks : List FK) (b : Bool), flatK P fs n = some ks → cellsE ks (xs.toList.drop n) (ys.toList.drop n) = some b →
    (Op.eqFields (d + 1) xs ys fs).run P w = .ok b w
  | [], n, ks, b, h, hb => by
    simp only [flatK, Option.some.injEq] at h
    subst h
    simp only [cellsE, Option.some.injEq] at hb
    subst hb
    simp [Op.eqFields]
  | f :: fs, n, ks, b, h, hb => by
    unfold flatK at h
    split at h
    · rename_i hc
      cases hk : fkOf P f.type with
      | none => rw [hk] at h; cases h
      | some k =>
        cases hr : flatK P fs (n + 1) with
        | none => rw [hk, hr] at h; cases h
        | some ks' =>
          rw [hk, hr] at h
          simp only [Option.some.injEq] at h
          subst h
          cases hx : xs.toList.drop n with
          | nil => rw [hx] at hb; cases hys : ys.toList.drop n <;> rw [hys] at hb <;> simp [cellsE] at hb
          | cons x xs' =>
            cases hy : ys.toList.drop n with
            | nil => rw [hx, hy] at hb; simp [cellsE] at hb
            | cons y ys' =>
              rw [hx, hy] at hb
              unfold cellsE at hb
              cases he : cellE k x y with
              | none => rw [he] at hb; cases hb
              | some b1 =>
                cases hes : cellsE ks' xs' ys' with
                | none => rw [he, hes] at hb; cases hb
                | some b2 =>
                  rw [he, hes] at hb
                  simp only [Option.some.injEq] at hb
                  have hx0 : xs[n]? = some x := by
                    have := congrArg (·[0]?) hx
                    simpa using this
                  have hy0 : ys[n]? = some y := by
                    have := congrArg (·[0]?) hy
                    simpa using this
                  have hxs : xs.toList.drop (n + 1) = xs' := by rw [← List.drop_drop, hx]; rfl
                  have hys : ys.toList.drop (n + 1) = ys' := by rw [← List.drop_drop, hy]; rfl
                  have ih := run_flat w d xs ys fs (n + 1) ks' b2 hr (by rw [hxs, hys]; exact hes)
                  rw [Op.eqFields, if_pos hc.2, hc.1]
                  simp only [Sem.run_bind, part_fk hk hx0, part_fk hk hy0, Result.andThen_ok, run_cellE w d hk he]
                  cases b1
                  · simp at hb; subst hb; simp
                  · simp at hb; subst hb; simpa using ih
    · cases h

section ops
variable {P : Program} {K : Cx} {ρ : Env} {m r : List HP} {dst : Option Nat} {ty t t' : TypeId} {pos : String} {aft : Array Edge} {g : Option (Nat × Bool)} {v : Value} {x y z : Operand} {ops : Array Oper} {Q : Exit → Act → World → Prop} {rest : List Oper} {d : Nat} {G : Rd}

theorem y_eqS {ks : List FK} [S : EqT P t ks] {xs ys : List Value} {b : Bool} (hx : opv ρ x = some (.agg xs.toArray)) (hy : opv ρ y = some (.agg ys.toArray)) (hb : cellsE ks xs ys = some b) : Yi P K ρ m ⟨dst, .binOp .eql t x y t', ty, pos, aft, g⟩ (.bool b) := ⟨fun a w hf _ => by
  have h1 := run_flat w 9998 xs.toArray ys.toArray (P.fieldsOf t).toList 0 ks b S.flat (by simpa using hb)
  have h2 := run_equalIn_agg (P := P) w 9999 t xs.toArray ys.toArray S.und S.held
  rw [h1] at h2
  simp only [execOp, hf.eval hx, hf.eval hy]
  simp only [Sem.run_bind, run_eqGuard_agg (P := P) w _ t x y xs.toArray ys.toArray S.guard, Result.andThen_ok, run_eql_struct, h2]
  simp⟩
theorem y_neS {ks : List FK} [S : EqT P t ks] {xs ys : List Value} {b : Bool} (hx : opv ρ x = some (.agg xs.toArray)) (hy : opv ρ y = some (.agg ys.toArray)) (hb : cellsE ks xs ys = some b) : Yi P K ρ m ⟨dst, .binOp .neq t x y t', ty, pos, aft, g⟩ (.bool (!b)) := ⟨fun a w hf _ => by
  have h1 := run_flat w 9998 xs.toArray ys.toArray (P.fieldsOf t).toList 0 ks b S.flat (by simpa using hb)
  have h2 := run_equalIn_agg (P := P) w 9999 t xs.toArray ys.toArray S.und S.held
  rw [h1] at h2
  simp only [execOp, hf.eval hx, hf.eval hy]
  simp only [Sem.run_bind, run_eqGuard_agg (P := P) w _ t x y xs.toArray ys.toArray S.guard, Result.andThen_ok, run_neq_struct, h2]
  simp⟩

/-! ## parts of strings -/
theorem y_strFI [S : StrT P t] {l : List UInt8} {k : IntKind} {i : Int} (hx : opv ρ x = some (.string ⟨l.toArray⟩)) (hy : opv ρ y = some (.int k i)) (hi : 0 ≤ i ∧ i ≤ l.length) : Yi P K ρ m ⟨dst, .slice t x (some y) none none, ty, pos, aft, g⟩ (.string ⟨(l.drop i.toNat).toArray⟩) := ⟨fun a w hf _ => by
  have h3 := run_slice_string_from_if (P := P) w t ⟨l.toArray⟩ k i S.und
  rw [if_pos ⟨hi.1, by simpa [ByteArray.size] using hi.2⟩, bytes_extract] at h3
  have h4 : l.take (ByteArray.size ⟨l.toArray⟩) = l := List.take_of_length_le (by simp [ByteArray.size])
  rw [h4] at h3
  simp only [execOp, Option.map_some, Option.map_none, hf.eval hx, hf.eval hy]
  simp [Instr.sliceAt, run_underlying S.und, h3]⟩
theorem y_strF {l : List UInt8} [S : StrT P t] {k : IntKind} {i : Nat} (hx : opv ρ x = some (.string ⟨l.toArray⟩)) (hy : opv ρ y = some (.int k (i : Int))) (hi : i ≤ l.length) : Yi P K ρ m ⟨dst, .slice t x (some y) none none, ty, pos, aft, g⟩ (.string ⟨(l.drop i).toArray⟩) := by
  have := y_strFI (P := P) (K := K) (m := m) (t := t) (dst := dst) (ty := ty) (pos := pos) (aft := aft) (g := g) hx hy ⟨by omega, by omega⟩
  rwa [Int.toNat_natCast] at this
theorem y_strLI [S : StrT P t] {l : List UInt8} {k k' : IntKind} {i j : Int} (hx : opv ρ x = some (.string ⟨l.toArray⟩)) (hy : opv ρ y = some (.int k i)) (hz : opv ρ z = some (.int k' j)) (hi : 0 ≤ i ∧ i ≤ j ∧ j ≤ l.length) : Yi P K ρ m ⟨dst, .slice t x (some y) (some z) none, ty, pos, aft, g⟩ (.string ⟨((l.take j.toNat).drop i.toNat).toArray⟩) := ⟨fun a w hf _ => by
  have h1 : (0 ≤ j ∧ j ≤ (ByteArray.size ⟨l.toArray⟩ : Nat)) := ⟨by omega, by simpa [ByteArray.size] using hi.2.2⟩
  have h2 : 0 ≤ i ∧ i ≤ j := ⟨hi.1, hi.2.1⟩
  have h3 := run_slice_string_if (P := P) w t ⟨l.toArray⟩ k k' i j S.und
  rw [if_pos h1, if_pos h2, bytes_extract] at h3
  simp only [execOp, Option.map_some, Option.map_none, hf.eval hx, hf.eval hy, hf.eval hz]
  simp [Instr.sliceAt, run_underlying S.und, h3]⟩
theorem y_strL [S : StrT P t] {l : List UInt8} {k k' : IntKind} {i j : Nat} (hx : opv ρ x = some (.string ⟨l.toArray⟩)) (hy : opv ρ y = some (.int k (i : Int))) (hz : opv ρ z = some (.int k' (j : Int))) (hi : i ≤ j ∧ j ≤ l.length) : Yi P K ρ m ⟨dst, .slice t x (some y) (some z) none, ty, pos, aft, g⟩ (.string ⟨((l.take j).drop i).toArray⟩) := by
  have := y_strLI (P := P) (K := K) (m := m) (t := t) (dst := dst) (ty := ty) (pos := pos) (aft := aft) (g := g) hx hy hz ⟨by omega, by omega, by omega⟩
  rwa [Int.toNat_natCast, Int.toNat_natCast] at this
theorem y_strTI [S : StrT P t] {l : List UInt8} {k' : IntKind} {j : Int} (hx : opv ρ x = some (.string ⟨l.toArray⟩)) (hz : opv ρ z = some (.int k' j)) (hi : 0 ≤ j ∧ j ≤ l.length) : Yi P K ρ m ⟨dst, .slice t x none (some z) none, ty, pos, aft, g⟩ (.string ⟨(l.take j.toNat).toArray⟩) := ⟨fun a w hf _ => by
  have h3 := run_slice_string_to_if (P := P) w t ⟨l.toArray⟩ k' j S.und
  rw [if_pos ⟨hi.1, by simpa [ByteArray.size] using hi.2⟩, bytes_extract, List.drop_zero] at h3
  simp only [execOp, Option.map_some, Option.map_none, hf.eval hx, hf.eval hz]
  simp [Instr.sliceAt, run_underlying S.und, h3]⟩
theorem y_strT [S : StrT P t] {l : List UInt8} {k' : IntKind} {j : Nat} (hx : opv ρ x = some (.string ⟨l.toArray⟩)) (hz : opv ρ z = some (.int k' (j : Int))) (hi : j ≤ l.length) : Yi P K ρ m ⟨dst, .slice t x none (some z) none, ty, pos, aft, g⟩ (.string ⟨(l.take j).toArray⟩) := by
  have := y_strTI (P := P) (K := K) (m := m) (t := t) (dst := dst) (ty := ty) (pos := pos) (aft := aft) (g := g) hx hz ⟨by omega, by omega⟩
  rwa [Int.toNat_natCast] at this
/-- a character as a string -/
theorem y_i2s {k : IntKind} {n : Int} [S : IntT P t k] [S' : StrT P t'] (hx : opv ρ x = some (.int k n)) : Yi P K ρ m ⟨dst, .convert t t' x, ty, pos, aft, g⟩ (.string (Utf8.encode n)) := ⟨fun a w hf _ => by
  have h1 := run_convert_int_string (P := P) w t t' k n (by rw [S.und]; rfl) S'.und
  simp only [execOp, hf.eval hx]
  simp [h1]⟩

theorem y_byteI [S : StrT P t] {l : List UInt8} {k : IntKind} {i : Int} (hx : opv ρ x = some (.string ⟨l.toArray⟩)) (hy : opv ρ y = some (.int k i)) (hi : 0 ≤ i ∧ i < l.length) : Yi P K ρ m ⟨dst, .index t x y, ty, pos, aft, g⟩ (.int .u8 ((l.getD i.toNat 0).toNat : Int)) :=
  y_byte (i := i.toNat) hx (by rw [Int.toNat_of_nonneg hi.1]; exact hy) (by omega)

/-! ## fields of struct values -/
def fieldV (fs : List (Nat × Nat)) (xs : List Value) (i : Nat) : Option Value := match fs[i]? with
  | some (off, 1) => xs[off]?
  | _ => none
class FldT (P : Program) (t : TypeId) (one : outParam (List (Option Nat))) : Prop where
  fld : ∀ (i off : Nat) (xs : Array Value) (v : Value) (w : World), one[i]? = some (some off) → xs[off]? = some v → (Instr.field t (.agg xs) i).run P w = .ok v w
theorem y_field {one : List (Option Nat)} [S : FldT P t one] {xs : List Value} {i off : Nat} (hx : opv ρ x = some (.agg xs.toArray)) (ho : one[i]? = some (some off)) (hv : xs[off]? = some v) : Yi P K ρ m ⟨dst, .field t x i, ty, pos, aft, g⟩ v := ⟨fun a w hf _ => by
  have h1 := S.fld i off xs.toArray v w ho (by simpa using hv)
  simp only [execOp, hf.eval hx]
  simp [h1]⟩
def oneOf (P : Program) (f : Field) : Option Nat := match P.underlying f.type with
  | some (.struct _) | some (.array _ _) | none => none
  | some _ => some f.offset
theorem fldT_of {P : Program} {t : TypeId} {fs : Array Field} {one : List (Option Nat)} (hu : P.underlying t = some (.struct fs)) (h1 : fs.toList.map (oneOf P) = one) : FldT P t one := ⟨fun i off xs v w h hv => by
  rw [← h1, List.getElem?_map] at h
  cases hf : fs.toList[i]? with
  | none => rw [hf] at h; cases h
  | some f =>
    rw [hf] at h
    simp only [Option.map_some, Option.some.injEq] at h
    have hf' : fs[i]? = some f := by simpa using hf
    have hagg : (isAgg f.type).run P w = .ok false w ∧ f.offset = off := by
      unfold oneOf at h
      cases hd : P.underlying f.type with
      | none => rw [hd] at h; cases h
      | some D =>
        rw [hd] at h
        refine ⟨?_, by split at h <;> simp_all⟩
        unfold isAgg
        rw [Sem.run_bind, run_underlying hd]
        cases D <;> simp_all
    simp [Instr.field, run_underlying hu, hf', asAgg, part, hagg.1, hagg.2, hv]⟩

theorem isRet (h : EX K Q .ret ρ m) : EX K Q .ret ρ m := h
theorem isNor (h : EX K Q .normal ρ m) : EX K Q .normal ρ m := h
theorem isPan {ch : List PanicEntry} (h : EX K Q (.panic ch) ρ m) : EX K Q (.panic ch) ρ m := h
theorem CW_condB1 {c : Operand} {x y : Code} {b : Bool} (ht : CW P K Q x ρ m) (hc : opv ρ c = some (.bool b)) (hb : b = true) : CW P K Q (.cond c x y) ρ m := CW_condT (by rw [hc, hb]) ht
theorem CW_condB0 {c : Operand} {x y : Code} {b : Bool} (hf : CW P K Q y ρ m) (hc : opv ρ c = some (.bool b)) (hb : b = false) : CW P K Q (.cond c x y) ρ m := CW_condF (by rw [hc, hb]) hf

theorem WL_gB1 {o : Option Nat} {n : Nat} {b : Bool} {op : Op} (k : WL P K ops Q (⟨o, op, ty, pos, aft, g⟩ :: rest) ((n, .bool true) :: ρ) m) (_ : gslot ops g = some n) (h : ρ.find n = some (.bool b)) (hb : b = true) : WL P K ops Q (⟨o, op, ty, pos, aft, g⟩ :: rest) ρ m := WL_set h hb k
theorem WL_gB0 {o : Option Nat} {n : Nat} {b : Bool} {op : Op} (k : WL P K ops Q (⟨o, op, ty, pos, aft, g⟩ :: rest) ((n, .bool false) :: ρ) m) (_ : gslot ops g = some n) (h : ρ.find n = some (.bool b)) (hb : b = false) : WL P K ops Q (⟨o, op, ty, pos, aft, g⟩ :: rest) ρ m := WL_set h hb k
theorem WQ_gB1 {o : Option Nat} {n : Nat} {b : Bool} {op : Op} {L : Act → Prop} (k : WQ P K ops L (⟨o, op, ty, pos, aft, g⟩ :: rest) ((n, .bool true) :: ρ) m) (_ : gslot ops g = some n) (h : ρ.find n = some (.bool b)) (hb : b = true) : WQ P K ops L (⟨o, op, ty, pos, aft, g⟩ :: rest) ρ m := WQ_set h hb k
theorem WQ_gB0 {o : Option Nat} {n : Nat} {b : Bool} {op : Op} {L : Act → Prop} (k : WQ P K ops L (⟨o, op, ty, pos, aft, g⟩ :: rest) ((n, .bool false) :: ρ) m) (_ : gslot ops g = some n) (h : ρ.find n = some (.bool b)) (hb : b = false) : WQ P K ops L (⟨o, op, ty, pos, aft, g⟩ :: rest) ρ m := WQ_set h hb k
/-! ## type assertions -/
theorem y_taT {T : TypeId} {u : Value} [S : NotIf P T] (hx : opv ρ x = some (.iface T u)) : Yi P K ρ m ⟨dst, .typeAssert x t T true, ty, pos, aft, g⟩ (.tuple #[u, .bool true]) := ⟨fun a w hf _ => by
  obtain ⟨D, hu, hd⟩ := S.ok
  simp only [execOp, hf.eval hx]
  cases D <;> simp_all [Instr.typeAssert, run_underlying hu]⟩
theorem y_taF {T T' : TypeId} {u zv : Value} [Z : ZV P T' zv] [S : NotIf P T'] (hx : opv ρ x = some (.iface T u)) (hne : Nat.beq T T' = false) : Yi P K ρ m ⟨dst, .typeAssert x t T' true, ty, pos, aft, g⟩ (.tuple #[zv, .bool false]) := ⟨fun a w hf _ => by
  obtain ⟨D, hu, hd⟩ := S.ok
  have hz := Z.zero w
  have hne' : ¬ T = T' := Nat.ne_of_beq_eq_false hne
  simp only [execOp, hf.eval hx]
  cases D <;> simp_all [Instr.typeAssert, run_underlying hu]⟩
theorem y_taN {T' : TypeId} {zv : Value} [Z : ZV P T' zv] [S : NotIf P T'] (hx : opv ρ x = some .nilIface) : Yi P K ρ m ⟨dst, .typeAssert x t T' true, ty, pos, aft, g⟩ (.tuple #[zv, .bool false]) := ⟨fun a w hf _ => by
  obtain ⟨D, hu, hd⟩ := S.ok
  have hz := Z.zero w
  simp only [execOp, hf.eval hx]
  cases D <;> simp_all [Instr.typeAssert, run_underlying hu]⟩
theorem y_ta1 {T : TypeId} {u : Value} [S : NotIf P T] (hx : opv ρ x = some (.iface T u)) : Yi P K ρ m ⟨dst, .typeAssert x t T false, ty, pos, aft, g⟩ u := ⟨fun a w hf _ => by
  obtain ⟨D, hu, hd⟩ := S.ok
  simp only [execOp, hf.eval hx]
  cases D <;> simp_all [Instr.typeAssert, run_underlying hu]⟩
end ops
end Go.Proofs.YtgjmgmejojbdeaaGreatDoor
