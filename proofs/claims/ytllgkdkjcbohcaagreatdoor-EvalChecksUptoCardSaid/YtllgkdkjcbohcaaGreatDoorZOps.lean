/-
  The logic of walks: the operations. Of no program.
  The logic of walks: operations that ask for nothing; tests that are decided.
-/
import Derived.Test.YtllgkdkjcbohcaaGreatDoorZRule
namespace Go.Proofs.YtllgkdkjcbohcaaGreatDoor
open Go.RowKit
/-! ## what is known of types -/
class SlT (P : Program) (t : TypeId) (e : outParam TypeId) (sz : outParam Nat) : Prop where
  und : P.underlying t = some (.slice e)
  size : ∀ w, (sizeOf e).run P w = .ok sz w
class StrT (P : Program) (t : TypeId) : Prop where
  und : P.underlying t = some .string
class BoolT (P : Program) (t : TypeId) : Prop where
  und : P.underlying t = some .bool
/-- a struct: where its fields lie -/
class StT (P : Program) (t : TypeId) (fs : outParam (List (Nat × Nat))) (zs : outParam (List Value)) : Prop where
  fld : ∀ (f off n : Nat) (a : Addr) (w : World), fs[f]? = some (off, n) → n ≠ 0 → (Instr.fieldAt t (.pointer (some a)) f).run P w = .ok (.pointer (some (a.add off))) w
  built : ∀ parts, P.built t parts = Instr.fill (fs.toArray[·]?) zs.toArray parts
  size : ∀ w, (sizeOf t).run P w = .ok zs.length w
  agg : ∀ w, (isAgg t).run P w = .ok true w
  zero : ∀ w, (zeroValue t).run P w = .ok (.agg zs.toArray) w
class IntT (P : Program) (t : TypeId) (k : outParam IntKind) : Prop where
  und : P.underlying t = some (.int k)
class IfT (P : Program) (t : TypeId) : Prop where
  und : ∃ ms, P.underlying t = some (.interface ms)
class NAgg (P : Program) (t : TypeId) : Prop where
  agg : ∀ w, (isAgg t).run P w = .ok false w
class OneT (P : Program) (t : TypeId) (z : outParam Value) : Prop where
  agg : ∀ w, (isAgg t).run P w = .ok false w
  size : ∀ w, (sizeOf t).run P w = .ok 1 w
  zero : ∀ w, (zeroValue t).run P w = .ok z w
/-- a function with a body -/
class FnT (P : Program) (f : FuncId) : Prop where
  ok : ∃ fn c, P.funcs[f]? = some fn ∧ fn.body = some c ∧ fn.name ≠ "runtime.NumGoroutine"
class NotIf (P : Program) (t : TypeId) : Prop where
  ok : ∃ d, P.underlying t = some d ∧ (match d with | .interface _ => true | _ => false) = false
theorem ibeq (a b : Int) : (a == b) = decide (a = b) := by rw [Bool.eq_iff_iff]; simp
theorem lbeq (a b : List UInt8) : (a == b) = decide (a = b) := by rw [Bool.eq_iff_iff]; simp
theorem bbeq (a b : Bool) : (a == b) = decide (a = b) := by rw [Bool.eq_iff_iff]; simp
theorem fieldAt_of {P : Program} {t : TypeId} {fields : Array Field} (hu : P.underlying t = some (.struct fields)) {f off n : Nat} {x : Field} (hx : fields[f]? = some x) (hoff : x.offset = off) (hs : ∀ w, (sizeOf x.type).run P w = .ok n w) (hn : n ≠ 0) (a : Addr) (w : World) :
    (Instr.fieldAt t (.pointer (some a)) f).run P w = .ok (.pointer (some (a.add off))) w := by
  simp [Instr.fieldAt, run_underlying hu, hx, Instr.sureAddr, fieldPlace, hs, hn, hoff]
theorem sizeOf_cells {P : Program} {e : TypeId} (h : P.cellsOf e ≠ 0) (w : World) : (sizeOf e).run P w = .ok (P.cellsOf e) w := by
  unfold Program.cellsOf at h ⊢
  cases hi : P.info? e with
  | none => simp [hi] at h
  | some i => simp [sizeOf, typeInfo, hi]
theorem fld_of {P : Program} {t : TypeId} {fields : Array Field} {fs : List (Nat × Nat)} (hu : P.underlying t = some (.struct fields)) (hfs : fields.toList.map (fun x => (x.offset, P.cellsOf x.type)) = fs) (f off n : Nat) (a : Addr) (w : World) (h : fs[f]? = some (off, n)) (hn : n ≠ 0) :
    (Instr.fieldAt t (.pointer (some a)) f).run P w = .ok (.pointer (some (a.add off))) w := by
  rw [← hfs, List.getElem?_map] at h
  cases hx : fields.toList[f]? with
  | none => rw [hx] at h; cases h
  | some x =>
    rw [hx] at h
    simp only [Option.map_some, Option.some.injEq, Prod.mk.injEq] at h
    obtain ⟨h1, h2⟩ := h
    exact fieldAt_of hu (x := x) (by simpa using hx) h1 (fun w => by rw [← h2]; exact sizeOf_cells (by rw [h2]; exact hn) w) hn a w
section ops
variable {P : Program} {K : Cx} {ρ : Env} {m : List HP} {dst : Option Nat} {ty t t' : TypeId} {pos : String} {aft : Array Edge} {g : Option (Nat × Bool)} {v : Value} {x y z : Operand}
theorem y_move (hx : opv ρ x = some v) : Yi P K ρ m ⟨dst, .move x, ty, pos, aft, g⟩ v := ⟨fun a w hf _ => by simp [execOp, hf.eval hx]⟩
theorem y_assign (hx : opv ρ x = some v) : Yi P K ρ m ⟨dst, .assign x, ty, pos, aft, g⟩ v := ⟨fun a w hf _ => by simp [execOp, hf.eval hx]⟩
theorem y_pickT (hc : opv ρ x = some (.bool true)) (hy : opv ρ y = some v) : Yi P K ρ m ⟨dst, .pick x y z, ty, pos, aft, g⟩ v := ⟨fun a w hf _ => by simp only [execOp, hf.eval hc, hf.eval hy]; simp [go_sem]⟩
theorem y_pickF (hc : opv ρ x = some (.bool false)) (hz : opv ρ z = some v) : Yi P K ρ m ⟨dst, .pick x y z, ty, pos, aft, g⟩ v := ⟨fun a w hf _ => by simp only [execOp, hf.eval hc, hf.eval hz]; simp [go_sem]⟩
section bin
variable {k : IntKind} {a b : Int} {l l' : List UInt8} {p q : Bool}
theorem y_add_w (hx : opv ρ x = some (.int k a)) (hy : opv ρ y = some (.int k b)) : Yi P K ρ m ⟨dst, .binOp .add t x y t', ty, pos, aft, g⟩ (.int k (k.wrap (a + b))) := ⟨fun a w hf _ => by simp only [execOp, hf.eval hx, hf.eval hy]; simp [go_sem]⟩
theorem y_sub_w (hx : opv ρ x = some (.int k a)) (hy : opv ρ y = some (.int k b)) : Yi P K ρ m ⟨dst, .binOp .sub t x y t', ty, pos, aft, g⟩ (.int k (k.wrap (a - b))) := ⟨fun a w hf _ => by simp only [execOp, hf.eval hx, hf.eval hy]; simp [go_sem]⟩
theorem y_mul_w (hx : opv ρ x = some (.int k a)) (hy : opv ρ y = some (.int k b)) : Yi P K ρ m ⟨dst, .binOp .mul t x y t', ty, pos, aft, g⟩ (.int k (k.wrap (a * b))) := ⟨fun a w hf _ => by simp only [execOp, hf.eval hx, hf.eval hy]; simp [go_sem]⟩
theorem y_quo_w (hx : opv ρ x = some (.int k a)) (hy : opv ρ y = some (.int k b)) (h : b ≠ 0) : Yi P K ρ m ⟨dst, .binOp .quo t x y t', ty, pos, aft, g⟩ (.int k (k.wrap (a.tdiv b))) := ⟨fun a w hf _ => by simp only [execOp, hf.eval hx, hf.eval hy]; simp [go_sem, h]⟩
theorem y_rem (hx : opv ρ x = some (.int k a)) (hy : opv ρ y = some (.int k b)) (h : b ≠ 0) : Yi P K ρ m ⟨dst, .binOp .rem t x y t', ty, pos, aft, g⟩ (.int k (a.tmod b)) := ⟨fun a w hf _ => by simp only [execOp, hf.eval hx, hf.eval hy]; simp [go_sem, h]⟩
theorem y_add (hx : opv ρ x = some (.int .i64 a)) (hy : opv ρ y = some (.int .i64 b)) (h : -9223372036854775808 ≤ a + b ∧ a + b ≤ 9223372036854775807) : Yi P K ρ m ⟨dst, .binOp .add t x y t', ty, pos, aft, g⟩ (.int .i64 (a + b)) := by
  have := y_add_w (P := P) (K := K) (m := m) (dst := dst) (ty := ty) (t := t) (t' := t') (pos := pos) (aft := aft) (g := g) hx hy
  rwa [IntWalk.i64_in _ h] at this
theorem y_sub (hx : opv ρ x = some (.int .i64 a)) (hy : opv ρ y = some (.int .i64 b)) (h : -9223372036854775808 ≤ a - b ∧ a - b ≤ 9223372036854775807) : Yi P K ρ m ⟨dst, .binOp .sub t x y t', ty, pos, aft, g⟩ (.int .i64 (a - b)) := by
  have := y_sub_w (P := P) (K := K) (m := m) (dst := dst) (ty := ty) (t := t) (t' := t') (pos := pos) (aft := aft) (g := g) hx hy
  rwa [IntWalk.i64_in _ h] at this
theorem y_mul (hx : opv ρ x = some (.int .i64 a)) (hy : opv ρ y = some (.int .i64 b)) (h : I64 (a * b)) : Yi P K ρ m ⟨dst, .binOp .mul t x y t', ty, pos, aft, g⟩ (.int .i64 (a * b)) := by
  have := y_mul_w (P := P) (K := K) (m := m) (dst := dst) (ty := ty) (t := t) (t' := t') (pos := pos) (aft := aft) (g := g) hx hy
  rwa [IntWalk.i64_in _ h] at this
theorem y_quo (hx : opv ρ x = some (.int .i64 a)) (hy : opv ρ y = some (.int .i64 b)) (h : 0 ≤ a ∧ a ≤ 9223372036854775807 ∧ 1 ≤ b) : Yi P K ρ m ⟨dst, .binOp .quo t x y t', ty, pos, aft, g⟩ (.int .i64 (a / b)) := by
  have := y_quo_w (P := P) (K := K) (m := m) (dst := dst) (ty := ty) (t := t) (t' := t') (pos := pos) (aft := aft) (g := g) hx hy (by omega)
  rwa [IntWalk.i64_quo _ _ h] at this
theorem y_rem' (hx : opv ρ x = some (.int k a)) (hy : opv ρ y = some (.int k b)) (h : 0 ≤ a ∧ 1 ≤ b) : Yi P K ρ m ⟨dst, .binOp .rem t x y t', ty, pos, aft, g⟩ (.int k (a % b)) := by
  have := y_rem (P := P) (K := K) (m := m) (dst := dst) (ty := ty) (t := t) (t' := t') (pos := pos) (aft := aft) (g := g) hx hy (by omega)
  rwa [IntWalk.rem_in _ _ h.1] at this
theorem y_neg_w (hx : opv ρ x = some (.int k a)) : Yi P K ρ m ⟨dst, .unOp .neg t x, ty, pos, aft, g⟩ (.int k (k.wrap (-a))) := ⟨fun a w hf _ => by simp only [execOp, hf.eval hx]; simp [go_sem]⟩
theorem y_neg (hx : opv ρ x = some (.int .i64 a)) (h : -9223372036854775807 ≤ a ∧ a ≤ 9223372036854775807) : Yi P K ρ m ⟨dst, .unOp .neg t x, ty, pos, aft, g⟩ (.int .i64 (-a)) := by
  have := y_neg_w (P := P) (K := K) (m := m) (dst := dst) (ty := ty) (t := t) (pos := pos) (aft := aft) (g := g) hx
  rwa [IntWalk.i64_in _ (by omega)] at this
theorem y_not (hx : opv ρ x = some (.bool p)) : Yi P K ρ m ⟨dst, .unOp .not t x, ty, pos, aft, g⟩ (.bool (!p)) := ⟨fun a w hf _ => by simp only [execOp, hf.eval hx]; simp [go_sem]⟩
theorem y_lt (hx : opv ρ x = some (.int k a)) (hy : opv ρ y = some (.int k b)) : Yi P K ρ m ⟨dst, .binOp .lss t x y t', ty, pos, aft, g⟩ (.bool (decide (a < b))) := ⟨fun a w hf _ => by simp only [execOp, hf.eval hx, hf.eval hy]; simp [go_sem]⟩
theorem y_gt (hx : opv ρ x = some (.int k a)) (hy : opv ρ y = some (.int k b)) : Yi P K ρ m ⟨dst, .binOp .gtr t x y t', ty, pos, aft, g⟩ (.bool (decide (b < a))) := ⟨fun a w hf _ => by simp only [execOp, hf.eval hx, hf.eval hy]; simp [go_sem]⟩
theorem y_le (hx : opv ρ x = some (.int k a)) (hy : opv ρ y = some (.int k b)) : Yi P K ρ m ⟨dst, .binOp .leq t x y t', ty, pos, aft, g⟩ (.bool (decide (a ≤ b))) := ⟨fun a w hf _ => by simp only [execOp, hf.eval hx, hf.eval hy]; simp [go_sem]⟩
theorem y_ge (hx : opv ρ x = some (.int k a)) (hy : opv ρ y = some (.int k b)) : Yi P K ρ m ⟨dst, .binOp .geq t x y t', ty, pos, aft, g⟩ (.bool (decide (b ≤ a))) := ⟨fun a w hf _ => by simp only [execOp, hf.eval hx, hf.eval hy]; simp [go_sem]⟩
theorem y_eq (hx : opv ρ x = some (.int k a)) (hy : opv ρ y = some (.int k b)) : Yi P K ρ m ⟨dst, .binOp .eql t x y t', ty, pos, aft, g⟩ (.bool (decide (a = b))) := ⟨fun a w hf _ => by simp only [execOp, hf.eval hx, hf.eval hy]; simp [go_sem, ibeq]⟩
theorem y_ne (hx : opv ρ x = some (.int k a)) (hy : opv ρ y = some (.int k b)) : Yi P K ρ m ⟨dst, .binOp .neq t x y t', ty, pos, aft, g⟩ (.bool (decide (a ≠ b))) := ⟨fun a w hf _ => by simp only [execOp, hf.eval hx, hf.eval hy]; simp [go_sem, bne, ibeq]⟩
theorem y_beq [S : BoolT P t] (hx : opv ρ x = some (.bool p)) (hy : opv ρ y = some (.bool q)) : Yi P K ρ m ⟨dst, .binOp .eql t x y t', ty, pos, aft, g⟩ (.bool (decide (p = q))) := ⟨fun a w hf _ => by simp only [execOp, hf.eval hx, hf.eval hy]; simp [go_sem, bbeq, run_eql_bool, S.und]⟩
theorem y_bne [S : BoolT P t] (hx : opv ρ x = some (.bool p)) (hy : opv ρ y = some (.bool q)) : Yi P K ρ m ⟨dst, .binOp .neq t x y t', ty, pos, aft, g⟩ (.bool (decide (p ≠ q))) := ⟨fun a w hf _ => by simp only [execOp, hf.eval hx, hf.eval hy]; simp [go_sem, bbeq, binOp, run_equal_bool, S.und]⟩
theorem bytes_app (l l' : List UInt8) : (⟨l.toArray⟩ : ByteArray) ++ ⟨l'.toArray⟩ = ⟨(l ++ l').toArray⟩ := by apply ByteArray.ext; simp
theorem run_cat (P : Program) (t : TypeId) (l l' : List UInt8) (w : World) (hl : l.length + l'.length ≤ 9223372036854775807) : (binOp .add t (.string ⟨l.toArray⟩) (.string ⟨l'.toArray⟩)).run P w = .ok (.string ⟨(l ++ l').toArray⟩) w := by
  have e : (⟨l.toArray⟩ : ByteArray) ++ ⟨l'.toArray⟩ = ⟨(l ++ l').toArray⟩ := by apply ByteArray.ext; simp
  have h1 : ¬ 9223372036854775807 < l.length + l'.length := by omega
  rw [← e]
  simp [binOp, go_sem, ByteArray.size, h1]
theorem y_seq (hx : opv ρ x = some (.string ⟨l.toArray⟩)) (hy : opv ρ y = some (.string ⟨l'.toArray⟩)) : Yi P K ρ m ⟨dst, .binOp .eql t x y t', ty, pos, aft, g⟩ (.bool (decide (l = l'))) := ⟨fun a w hf _ => by simp only [execOp, hf.eval hx, hf.eval hy]; simp [go_sem, lbeq]⟩
theorem y_sne (hx : opv ρ x = some (.string ⟨l.toArray⟩)) (hy : opv ρ y = some (.string ⟨l'.toArray⟩)) : Yi P K ρ m ⟨dst, .binOp .neq t x y t', ty, pos, aft, g⟩ (.bool (decide (l ≠ l'))) := ⟨fun a w hf _ => by simp only [execOp, hf.eval hx, hf.eval hy]; simp [go_sem, lbeq]⟩
theorem y_cat (hx : opv ρ x = some (.string ⟨l.toArray⟩)) (hy : opv ρ y = some (.string ⟨l'.toArray⟩)) (hl : l.length + l'.length ≤ 9223372036854775807) : Yi P K ρ m ⟨dst, .binOp .add t x y t', ty, pos, aft, g⟩ (.string ⟨(l ++ l').toArray⟩) := by
  refine ⟨fun a w hf _ => ?_⟩
  have h1 : ¬ 9223372036854775807 < l.length + l'.length := by omega
  simp only [execOp, hf.eval hx, hf.eval hy]
  simp [go_sem, ByteArray.size, h1, bytes_app]
theorem run_or8 (A B : Int) (i : Nat) (hA : A % 2 ^ i = 0 ∧ 0 ≤ A ∧ A < 256) (hB : 0 ≤ B ∧ B < 2 ^ i ∧ A + B < 256) (w : World) : (binOp .or t (.int .u8 A) (.int .u8 B)).run P w = .ok (.int .u8 (A + B)) w := by
  obtain ⟨a, rfl⟩ : ∃ a : Nat, A = a := ⟨A.toNat, by omega⟩
  obtain ⟨b, rfl⟩ : ∃ b : Nat, B = b := ⟨B.toNat, by omega⟩
  have hb : b < 2 ^ i := by have := hB.2.1; exact_mod_cast this
  have ha : a % 2 ^ i = 0 := by have := hA.1; exact_mod_cast this
  have h1 : a ||| b = a + b := by
    have h2 : a = 2 ^ i * (a / 2 ^ i) := by have := Nat.div_add_mod a (2 ^ i); omega
    rw [h2]
    exact (Nat.two_pow_add_eq_or_of_lt hb _).symm
  have hl : a + b < 256 := by omega
  have e1 : (BitVec.ofInt 8 (a : Int)).toNat = a := by rw [BitVec.ofInt_natCast, BitVec.toNat_ofNat]; exact Nat.mod_eq_of_lt (by omega)
  have e2 : (BitVec.ofInt 8 (b : Int)).toNat = b := by rw [BitVec.ofInt_natCast, BitVec.toNat_ofNat]; exact Nat.mod_eq_of_lt (by omega)
  have e3 : IntKind.u8.wrap ((BitVec.ofInt 8 (a : Int) ||| BitVec.ofInt 8 (b : Int)).toNat : Int) = (a : Int) + (b : Int) := by
    rw [BitVec.toNat_or, e1, e2, h1, IntWalk.u8_in _ (by omega)]; rfl
  show ((Op.intBits .or .u8 (a : Int) (b : Int)).run P w) = _
  show Result.ok (Value.int .u8 (IntKind.u8.wrap ((BitVec.ofInt 8 (a : Int) ||| BitVec.ofInt 8 (b : Int)).toNat : Int))) w = _
  rw [e3]
theorem y_or8 {A B : Int} (i : Nat) (hx : opv ρ x = some (.int .u8 A)) (hy : opv ρ y = some (.int .u8 B)) (hA : A % 2 ^ i = 0 ∧ 0 ≤ A ∧ A < 256) (hB : 0 ≤ B ∧ B < 2 ^ i ∧ A + B < 256) : Yi P K ρ m ⟨dst, .binOp .or t x y t', ty, pos, aft, g⟩ (.int .u8 (A + B)) := ⟨fun a w hf _ => by
  simp only [execOp, hf.eval hx, hf.eval hy]
  have h1 := run_or8 (P := P) (t := t) A B i hA hB w
  simp only [eqGuard, Sem.run_bind]
  simp [h1]⟩
theorem run_and63 (A : Int) (hA : 0 ≤ A ∧ A < 256) (w : World) : (binOp .and t (.int .u8 A) (.int .u8 63)).run P w = .ok (.int .u8 (A % 64)) w := by
  obtain ⟨a, rfl⟩ : ∃ a : Nat, A = a := ⟨A.toNat, by omega⟩
  have h1 : a &&& 63 = a % 64 := Nat.and_two_pow_sub_one_eq_mod a 6
  have e1 : (BitVec.ofInt 8 (a : Int)).toNat = a := by rw [BitVec.ofInt_natCast, BitVec.toNat_ofNat]; exact Nat.mod_eq_of_lt (by omega)
  have e3 : IntKind.u8.wrap ((BitVec.ofInt 8 (a : Int) &&& BitVec.ofInt 8 (63 : Int)).toNat : Int) = (a : Int) % 64 := by
    rw [BitVec.toNat_and, e1, show (BitVec.ofInt 8 (63 : Int)).toNat = 63 from rfl, h1, IntWalk.u8_in _ (by omega)]; rfl
  show Result.ok (Value.int .u8 (IntKind.u8.wrap ((BitVec.ofInt 8 (a : Int) &&& BitVec.ofInt 8 (63 : Int)).toNat : Int))) w = _
  rw [e3]
theorem y_and63 {A : Int} (hx : opv ρ x = some (.int .u8 A)) (hy : opv ρ y = some (.int .u8 63)) (hA : 0 ≤ A ∧ A < 256) : Yi P K ρ m ⟨dst, .binOp .and t x y t', ty, pos, aft, g⟩ (.int .u8 (A % 64)) := ⟨fun a w hf _ => by
  simp only [execOp, hf.eval hx, hf.eval hy]
  have h1 := run_and63 (P := P) (t := t) A hA w
  simp only [eqGuard, Sem.run_bind]
  simp [h1]⟩
/-- a shift to the right by a literal -/
theorem y_shr {A : Int} {n : Nat} {k' : IntKind} (hx : opv ρ x = some (.int k A)) (hy : opv ρ y = some (.int k' (n : Int))) (hn : Nat.ble n k.bits = true) : Yi P K ρ m ⟨dst, .binOp .shr t x y t', ty, pos, aft, g⟩ (.int k (A / 2 ^ n)) := ⟨fun a w hf _ => by
  simp only [execOp, hf.eval hx, hf.eval hy]
  have h2 := Nat.le_of_ble_eq_true hn
  have h1 : (binOp .shr t (.int k A) (.int k' (n : Int))).run P w = .ok (.int k (A / 2 ^ n)) w := by
    show ((Op.shift .shr k A k' (n : Int)).run P w) = _
    have h3 : ¬ ((n : Int) < 0) := by omega
    simp only [Op.shift, if_neg h3, Int.toNat_natCast, Nat.min_eq_left h2]
    rw [Int.fdiv_eq_ediv_of_nonneg _ (by exact_mod_cast Nat.zero_le (2 ^ n))]
    rfl
  simp only [eqGuard, Sem.run_bind]
  simp [h1]⟩
theorem y_shrq {A : Int} (n : Nat) (q : Int) {k' : IntKind} (hx : opv ρ x = some (.int k A)) (hy : opv ρ y = some (.int k' (n : Int))) (hn : Nat.ble n k.bits = true) (hq : (2 : Int) ^ n = q) : Yi P K ρ m ⟨dst, .binOp .shr t x y t', ty, pos, aft, g⟩ (.int k (A / q)) := by
  have := y_shr (P := P) (K := K) (m := m) (dst := dst) (ty := ty) (t := t) (t' := t') (pos := pos) (aft := aft) (g := g) hx hy hn
  rwa [hq] at this
end bin
theorem y_conv {k k' : IntKind} {a : Int} [S : IntT P t k] [S' : IntT P t' k'] (hx : opv ρ x = some (.int k a)) : Yi P K ρ m ⟨dst, .convert t t' x, ty, pos, aft, g⟩ (.int k' (k'.wrap a)) := ⟨fun _ w hf _ => by
  simp only [execOp, hf.eval hx]
  simp [convert, run_underlying S.und, run_underlying S'.und, Conv.intToInt]⟩
theorem y_conv_in {k k' : IntKind} {a : Int} [S : IntT P t k] [S' : IntT P t' k'] (hx : opv ρ x = some (.int k a)) (h : k'.wrap a = a) : Yi P K ρ m ⟨dst, .convert t t' x, ty, pos, aft, g⟩ (.int k' a) := by
  have := y_conv (P := P) (K := K) (m := m) (dst := dst) (ty := ty) (pos := pos) (aft := aft) (g := g) (t := t) (t' := t') hx
  rwa [h] at this
theorem u8_mod (a : Int) : IntKind.u8.wrap a = a % 256 := IntKind.wrap_u8 a
theorem y_conv_u8 {k : IntKind} {a : Int} [S : IntT P t k] [S' : IntT P t' .u8] (hx : opv ρ x = some (.int k a)) : Yi P K ρ m ⟨dst, .convert t t' x, ty, pos, aft, g⟩ (.int .u8 (a % 256)) := by
  have := y_conv (P := P) (K := K) (m := m) (dst := dst) (ty := ty) (pos := pos) (aft := aft) (g := g) (t := t) (t' := t') hx
  rwa [u8_mod] at this
/-! ## addresses -/
theorem y_nilP {a : Addr} (hx : opv ρ x = some (.pointer (some a))) : Yi P K ρ m ⟨dst, .nilCheck x, ty, pos, aft, g⟩ (.pointer (some a)) := ⟨fun _ w hf _ => by simp [execOp, hf.eval hx]⟩
theorem y_fieldAddr {fs : List (Nat × Nat)} {zs : List Value} [S : StT P t fs zs] {a : Addr} {f off n : Nat} (hx : opv ρ x = some (.pointer (some a))) (hf : fs[f]? = some (off, n + 1)) : Yi P K ρ m ⟨dst, .fieldAddr t x f, ty, pos, aft, g⟩ (.pointer (some (a.add off))) := by
  refine ⟨fun _ w hfi _ => ?_⟩
  simp [execOp, hfi.eval hx, S.fld f off (n + 1) a w hf (by omega)]
theorem y_index1 {e : TypeId} [S : SlT P t e 1] {p : Option Addr} {n c : Nat} {k : IntKind} {i : Nat} (hx : opv ρ x = some (.slice p n c)) (hy : opv ρ y = some (.int k (i : Int))) (hs : p.isSome = true) (hi : i < n) : Yi P K ρ m ⟨dst, .indexAddr t x y, ty, pos, aft, g⟩ (.pointer (some (addrAt p i))) := by
  refine ⟨fun _ w hf _ => ?_⟩
  simp [execOp, hf.eval hx, hf.eval hy, idxAt S.und S.size hs k i hi w]
theorem idxAtN {P : Program} {t e : TypeId} {sz : Nat} (ht : P.underlying t = some (.slice e)) (hz : ∀ w, (sizeOf e).run P w = .ok sz w) {p : Option Addr} {n cap : Nat} (hs : p.isSome = true) (k : IntKind) (i : Nat) (hi : i < n) (w : World) :
    (Instr.indexAt t (.slice p n cap) (.int k (i : Int))).run P w = .ok (.pointer (some (addrAt p (i * sz)))) w := by
  obtain ⟨a, rfl⟩ := Option.isSome_iff_exists.1 hs
  have h1 : (0 : Int) ≤ (i : Int) ∧ (i : Int) < (n : Int) := ⟨by omega, by omega⟩
  simp [Instr.indexAt, run_underlying ht, asIntOf, h1, hz, addrAt]
  intro h2; omega
theorem y_indexN {e : TypeId} {sz : Nat} [S : SlT P t e sz] {p : Option Addr} {n c : Nat} {k : IntKind} {i : Nat} (hx : opv ρ x = some (.slice p n c)) (hy : opv ρ y = some (.int k (i : Int))) (hs : p.isSome = true) (hi : i < n) : Yi P K ρ m ⟨dst, .indexAddr t x y, ty, pos, aft, g⟩ (.pointer (some (addrAt p (i * sz)))) := by
  refine ⟨fun _ w hf _ => ?_⟩
  simp [execOp, hf.eval hx, hf.eval hy, idxAtN S.und S.size hs k i hi w]
theorem y_index1z {e : TypeId} [S : SlT P t e 1] {p : Option Addr} {n c : Nat} {k : IntKind} {i : Int} (hx : opv ρ x = some (.slice p n c)) (hy : opv ρ y = some (.int k i)) (hs : p.isSome = true) (hi : 0 ≤ i ∧ i < n) : Yi P K ρ m ⟨dst, .indexAddr t x y, ty, pos, aft, g⟩ (.pointer (some (addrAt p i.toNat))) := by
  refine ⟨fun _ w hf _ => ?_⟩
  have h1 := idxAt S.und S.size (cap := c) hs k i.toNat (by omega : i.toNat < n) w
  rw [Int.toNat_of_nonneg hi.1] at h1
  simp [execOp, hf.eval hx, hf.eval hy, h1]
/-- a byte of a string -/
theorem y_byte [S : StrT P t] {l : List UInt8} {k : IntKind} {i : Nat} (hx : opv ρ x = some (.string ⟨l.toArray⟩)) (hy : opv ρ y = some (.int k (i : Int))) (hi : i < l.length) : Yi P K ρ m ⟨dst, .index t x y, ty, pos, aft, g⟩ (.int .u8 ((l.getD i 0).toNat : Int)) := by
  refine ⟨fun _ w hf _ => ?_⟩
  have h1 := strIdx (P := P) S.und ⟨l.toArray⟩ i (by simpa [ByteArray.size] using hi) k rfl w
  simp [execOp, hf.eval hx, hf.eval hy, h1]
  simp [List.getElem?_eq_getElem hi]
  rfl
theorem y_len_sl {e : TypeId} {sz : Nat} [S : SlT P t e sz] {p : Option Addr} {n c : Nat} (hx : opv ρ x = some (.slice p n c)) : Yi P K ρ m ⟨dst, .call ⟨.builtin .len, #[x], #[t]⟩, ty, pos, aft, g⟩ (.int .i64 (n : Int)) := by
  refine ⟨fun _ w hf _ => ?_⟩
  have he : P.underlying t = some (.slice (P.elem t)) := by
    have : P.elem t = e := by simp [Program.elem, S.und]
    rw [this]; exact S.und
  simp only [BigFrame.execOp_builtin, List.map_toArray, List.map_cons, List.map_nil, hf.eval hx]
  simp only [go_sem]
  simp [run_len_slice w t ty p n c he, goInt]
theorem y_len_str [S : StrT P t] {l : List UInt8} (hx : opv ρ x = some (.string ⟨l.toArray⟩)) : Yi P K ρ m ⟨dst, .call ⟨.builtin .len, #[x], #[t]⟩, ty, pos, aft, g⟩ (.int .i64 (l.length : Int)) := by
  refine ⟨fun _ w hf _ => ?_⟩
  have h1 := run_len_string (P := P) w t ty ⟨l.toArray⟩ S.und
  simp only [BigFrame.execOp_builtin, List.map_toArray, List.map_cons, List.map_nil, hf.eval hx]
  simp only [go_sem]
  simp [h1, goInt, ByteArray.size]
/-- an interface value against nil -/
theorem run_nil_eq (S : IfT P t) (v : Value) (hv : v = .nilIface ∨ ∃ T u, v = .iface T u) (w : World) : (Op.equal t v .nilIface).run P w = .ok (match v with | .nilIface => true | _ => false) w := by
  obtain ⟨ms, hu⟩ := S.und
  have h : ∀ d : Nat, (Op.equalIn (d + 1) t v .nilIface).run P w = .ok (match v with | .nilIface => true | _ => false) w := fun d => by
    rcases hv with rfl | ⟨T, u, rfl⟩
    · simp [Op.equalIn, run_underlying hu]
    · simp [Op.equalIn, run_underlying hu]
  exact h 9999
theorem y_eqN [S : IfT P t] (hx : opv ρ x = some .nilIface) : Yi P K ρ m ⟨dst, .binOp .eql t x (.const .nilIface) t', ty, pos, aft, g⟩ (.bool true) := ⟨fun a w hf _ => by
  have h1 := run_nil_eq S .nilIface (.inl rfl) w
  simp only [execOp, hf.eval hx, hf.eval (show opv ρ (.const .nilIface) = some .nilIface from rfl)]
  simp [eqGuard, binOp, h1]⟩
theorem y_eqI [S : IfT P t] {T : TypeId} {u : Value} (hx : opv ρ x = some (.iface T u)) : Yi P K ρ m ⟨dst, .binOp .eql t x (.const .nilIface) t', ty, pos, aft, g⟩ (.bool false) := ⟨fun a w hf _ => by
  have h1 := run_nil_eq S (.iface T u) (.inr ⟨_, _, rfl⟩) w
  simp only [execOp, hf.eval hx, hf.eval (show opv ρ (.const .nilIface) = some .nilIface from rfl)]
  simp [eqGuard, binOp, h1]⟩
theorem y_neN [S : IfT P t] (hx : opv ρ x = some .nilIface) : Yi P K ρ m ⟨dst, .binOp .neq t x (.const .nilIface) t', ty, pos, aft, g⟩ (.bool false) := ⟨fun a w hf _ => by
  have h1 := run_nil_eq S .nilIface (.inl rfl) w
  simp only [execOp, hf.eval hx, hf.eval (show opv ρ (.const .nilIface) = some .nilIface from rfl)]
  simp [eqGuard, binOp, h1]⟩
theorem y_neI [S : IfT P t] {T : TypeId} {u : Value} (hx : opv ρ x = some (.iface T u)) : Yi P K ρ m ⟨dst, .binOp .neq t x (.const .nilIface) t', ty, pos, aft, g⟩ (.bool true) := ⟨fun a w hf _ => by
  have h1 := run_nil_eq S (.iface T u) (.inr ⟨_, _, rfl⟩) w
  simp only [execOp, hf.eval hx, hf.eval (show opv ρ (.const .nilIface) = some .nilIface from rfl)]
  simp [eqGuard, binOp, h1]⟩
/-- a part of a slice -/
theorem y_slice {e : TypeId} [S : SlT P t e 1] {p : Option Addr} {n c l h : Nat} {k1 k2 : IntKind} (hx : opv ρ x = some (.slice p n c)) (hy : opv ρ y = some (.int k1 (l : Int))) (hz : opv ρ z = some (.int k2 (h : Int))) (hs : p.isSome = true) (h1 : l < c) (h2 : l ≤ h) (h3 : h ≤ c) : Yi P K ρ m ⟨dst, .slice t x (some y) (some z) none, ty, pos, aft, g⟩ (.slice (some (addrAt p l)) (h - l) (c - l)) := ⟨fun _ w hf _ => by
  have h4 := sliceLH (P := P) S.und S.size (p := p) (n := n) (cap := c) (l := l) (h := h) hs h1 h2 h3 k1 k2 rfl rfl w
  simp only [execOp, Option.map_some, Option.map_none, hf.eval hx, hf.eval hy, hf.eval hz]
  simp [h4]⟩
/-! ## reading memory -/
/-- the cells at an address -/
def RdC (K : Cx) (m : List HP) (a : Addr) (cs : List Value) : Prop := ∀ w, Holds K.w0 K.F m w → ∀ j v, cs[j]? = some v → w.cell? (a.add j) = some v
theorem add_zero (a : Addr) : a.add 0 = a := by simp [Addr.add]
theorem RdC.one {a : Addr} {v : Value} (h : RdC K m a [v]) {w : World} (hw : Holds K.w0 K.F m w) : w.cell? a = some v := by
  have := h w hw 0 v rfl
  rwa [add_zero] at this
theorem y_load [S : NAgg P t] {a : Addr} (hx : opv ρ x = some (.pointer (some a))) (h : RdC K m a [v]) : Yi P K ρ m ⟨dst, .load t x, ty, pos, aft, g⟩ v := by
  refine ⟨fun _ w hf hm => ?_⟩
  simp [execOp, hf.eval hx, Instr.loadAt, Instr.sureAddr, loadVar, S.agg, h.one hm]
theorem y_loadA {fs : List (Nat × Nat)} {zs : List Value} [S : StT P t fs zs] {a : Addr} {cs : List Value} (hx : opv ρ x = some (.pointer (some a))) (h : RdC K m a cs) (hl : cs.length = zs.length) : Yi P K ρ m ⟨dst, .load t x, ty, pos, aft, g⟩ (.agg cs.toArray) := by
  refine ⟨fun _ w hf hm => ?_⟩
  have h1 := run_loadCells_list (P := P) (w := w) a cs (h w hm)
  rw [hl] at h1
  simp [execOp, hf.eval hx, Instr.loadAt, Instr.sureAddr, loadVar, S.agg, S.size, h1]
theorem rd_blk {b off : Nat} {T : TypeId} {cs : Array Value} {r : List HP} {l : List Value} (hp : Pick m (blk b T cs) r) (hl : (cs.toList.drop off).take l.length = l) : RdC K m ⟨b, off, none⟩ l := fun w hw j v hv => by
  have hb := hw.blk hp
  have hj : j < l.length := (List.getElem?_eq_some_iff.1 hv).1
  rw [← hl, List.getElem?_take, if_pos hj, List.getElem?_drop] at hv
  have : (⟨b, off, none⟩ : Addr).add j = ⟨b, off + j, none⟩ := by unfold Addr.add; split <;> simp [*]
  rw [this]
  simp only [World.cell?, hb]
  simpa using hv
/-- a struct out of a block -/
theorem y_loadB {fs : List (Nat × Nat)} {zs : List Value} [S : StT P t fs zs] {b off : Nat} {T : TypeId} {cs : Array Value} {r : List HP} (hx : opv ρ x = some (.pointer (some ⟨b, off, none⟩))) (hp : Pick m (blk b T cs) r) (hl : Nat.ble (off + zs.length) cs.toList.length = true) :
    Yi P K ρ m ⟨dst, .load t x, ty, pos, aft, g⟩ (.agg ((cs.toList.drop off).take zs.length).toArray) := by
  have h0 := Nat.le_of_ble_eq_true hl
  have h1 : ((cs.toList.drop off).take zs.length).length = zs.length := by simp at h0 ⊢; omega
  exact y_loadA hx (rd_blk hp (by rw [h1])) h1
theorem rd_ints {p : Option Addr} {c i : Nat} {xs : List Int} (h : ∀ w, Holds K.w0 K.F m w → IntsAt w p c xs) (hi : i < xs.length) : RdC K m (addrAt p i) [.int .i64 (xs.getD i 0)] := fun w hw j v hv => by
  have hj : j = 0 := by have := (List.getElem?_eq_some_iff.1 hv).1; simp at this; omega
  subst hj
  rw [add_zero, (h w hw).get i hi]
  exact hv
theorem ints_base {p : Option Addr} {c : Nat} {xs : List Int} (h : IntsAt K.w0 p c xs) (hF : K.F = []) : ∀ w, Holds K.w0 K.F m w → IntsAt w p c xs := fun w hw => by
  rw [hF] at hw
  exact h.below hw.below
theorem ints_keep {p : Option Addr} {c : Nat} {xs : List Int} (h : IntsAt K.w0 p c xs) (hd : ∀ a, p = some a → a.block ∉ K.F) : ∀ w, Holds K.w0 K.F m w → IntsAt w p c xs := fun w hw => by
  refine ⟨h.le, h.max, h.some', fun i x hx => ?_, h.rng⟩
  have hc := h.cell i x hx
  have hs := h.some' (by intro e; subst e; simp at hx)
  obtain ⟨a, rfl⟩ := Option.isSome_iff_exists.1 hs
  have hb : (addrAt (some a) i).block = a.block := by unfold addrAt; show (a.add i).block = _; unfold Addr.add; split <;> rfl
  have hlt : (addrAt (some a) i).block < K.w0.heap.size := by
    unfold World.cell? at hc
    rcases Nat.lt_or_ge (addrAt (some a) i).block K.w0.heap.size with h' | h'
    · exact h'
    · rw [Array.getElem?_eq_none h'] at hc; simp at hc
  rw [World.cell?_of_block (hw.keep.block _ hlt (by rw [hb]; exact hd a rfl))]
  exact hc
theorem IntsAt.some_lt {w : World} {p : Option Addr} {c i : Nat} {xs : List Int} (h : IntsAt w p c xs) (hi : i < xs.length) : p.isSome = true := h.some' (by intro e; subst e; simp at hi)
theorem y_iface [S : NotIf P t] (hx : opv ρ x = some v) : Yi P K ρ m ⟨dst, .makeInterface t x, ty, pos, aft, g⟩ (.iface t v) := by
  refine ⟨fun _ w hf _ => ?_⟩
  obtain ⟨d, h1, h2⟩ := S.ok
  simp only [execOp, hf.eval hx, Instr.makeInterface]
  cases d <;> simp_all [run_underlying h1]
theorem y_ix {e : TypeId} [S : SlT P t e 1] {p : Option Addr} {n c c' : Nat} {k : IntKind} {i : Nat} {w' : World} {xs : List Int} (hx : opv ρ x = some (.slice p n c)) (hy : opv ρ y = some (.int k (i : Int))) (h : IntsAt w' p c' xs) (hn : n ≤ xs.length) (hi : i < n) : Yi P K ρ m ⟨dst, .indexAddr t x y, ty, pos, aft, g⟩ (.pointer (some (addrAt p i))) :=
  y_index1 hx hy (h.some_lt (i := i) (by omega)) hi
theorem y_ixz {e : TypeId} [S : SlT P t e 1] {p : Option Addr} {n c c' : Nat} {k : IntKind} {i : Int} {w' : World} {xs : List Int} (hx : opv ρ x = some (.slice p n c)) (hy : opv ρ y = some (.int k i)) (h : IntsAt w' p c' xs) (hn : n ≤ xs.length) (hi : 0 ≤ i ∧ i < n) : Yi P K ρ m ⟨dst, .indexAddr t x y, ty, pos, aft, g⟩ (.pointer (some (addrAt p i.toNat))) :=
  y_index1z hx hy (h.some_lt (i := i.toNat) (by omega)) hi
/-! ## making memory -/
variable {ops : Array Oper} {Q : Exit → Act → World → Prop} {rest : List Oper} {d : Nat}
theorem WL_box {cs : Array Value} (hx : opv ρ x = some (.agg cs)) (hg : guardB ops g ρ = some true) (hn : (guardN K.N ops g && Nat.blt d K.N) = true) (k : ∀ b : Nat, WL P K ops Q rest ((d, .pointer (some ⟨b, 0, none⟩)) :: ρ) (blk b t cs :: m)) :
    WL P K ops Q (⟨some d, .box t x, ty, pos, aft, g⟩ :: rest) ρ m := by
  refine ⟨fun a w hf hm => ?_⟩
  simp only [Bool.and_eq_true] at hn
  unfold wpList
  rw [if_pos (guard_wanted hf hg (guardN_spec hn.1))]
  refine .inl ?_
  have h : (execOp a.eval ⟨some d, .box t x, ty, pos, aft, g⟩).run P w = .ok (.value (.pointer (some ⟨w.heap.size, 0, none⟩))) (w.alloc (.cells cs t)) := by
    simp only [execOp, hf.eval hx]; simp [go_sem]
  unfold Oper.wp
  rw [h, Oper.upon_value]
  exact (k _).run _ _ (hf.put (blt_lt hn.2) _) (hm.new t cs)
/-! ## calls -/
def opvs (ρ : Env) : List Operand → Option (List Value)
  | [] => some []
  | x :: r => match opv ρ x with
    | none => none
    | some v => match opvs ρ r with
      | none => none
      | some vs => some (v :: vs)
theorem opvs_eval {N : Nat} {D : List Deferred} {a : Act} (hf : Fits N D a ρ) : ∀ {xs : List Operand} {vs : List Value}, opvs ρ xs = some vs → xs.map a.eval = vs
  | [], vs, h => by simp [opvs] at h; subst h; rfl
  | x :: r, vs, h => by
    unfold opvs at h
    cases hx : opv ρ x with
    | none => rw [hx] at h; cases h
    | some u =>
      cases hr : opvs ρ r with
      | none => rw [hx, hr] at h; cases h
      | some us =>
        rw [hx, hr] at h
        injection h with h
        subst h
        rw [List.map_cons, hf.eval hx, opvs_eval hf hr]
theorem run_enter {N : Nat} {D : List Deferred} {a : Act} (hf : Fits N D a ρ) {f : FuncId} [S : FnT P f] {xs : List Operand} {ats : Array TypeId} {vs : List Value} (hx : opvs ρ xs = some vs) (w : World) :
    (execOp a.eval ⟨dst, .call ⟨.value (.func f), xs.toArray, ats⟩, ty, pos, aft, g⟩).run P w = .ok (.enter f vs.toArray) w := by
  have h1 := opvs_eval hf hx
  obtain ⟨fn, c, hfn, hb, hnm⟩ := S.ok
  simp only [execOp, resolve, List.map_toArray, h1, Act.eval]
  simp [Deferred.ofValue, invoke, callFunc, hfn, hb, hnm, go_sem]
theorem WL_call {f : FuncId} [S : FnT P f] {xs : List Operand} {ats : Array TypeId} {vs : List Value} (hx : opvs ρ xs = some vs) (hg : guardB ops g ρ = some true)
    (hn : (guardN K.N ops g && Nat.blt d K.N) = true) {R : World → Ending → World → Prop} (hc : ∀ w, Holds K.w0 K.F m w → Calls P f vs.toArray w (R w))
    {X : Type} (V : X → Value) (M : X → List HP) (I : X → Prop) (hp : ∀ w e w', Holds K.w0 K.F m w → R w e w' → ∃ x, I x ∧ e = .returned (V x) ∧ Holds K.w0 K.F (M x) w')
    (k : ∀ x, I x → WL P K ops Q rest ((d, V x) :: ρ) (M x)) : WL P K ops Q (⟨some d, .call ⟨.value (.func f), xs.toArray, ats⟩, ty, pos, aft, g⟩ :: rest) ρ m := by
  refine ⟨fun a w hf hm => ?_⟩
  simp only [Bool.and_eq_true] at hn
  unfold wpList
  rw [if_pos (guard_wanted hf hg (guardN_spec hn.1))]
  refine .inl ?_
  unfold Oper.wp
  rw [run_enter hf hx, Oper.upon_enter]
  refine (hc w hm).mono fun e w' hr => ?_
  obtain ⟨z, hz, rfl, hh⟩ := hp w e w' hm hr
  exact (k z hz).run _ _ (hf.put (blt_lt hn.2) _) hh
/-- a call whose value is known, and that turns nothing -/
theorem WL_callV {f : FuncId} [S : FnT P f] {xs : List Operand} {ats : Array TypeId} {vs : List Value} (hx : opvs ρ xs = some vs) (hg : guardB ops g ρ = some true)
    (hn : (guardN K.N ops g && Nat.blt d K.N) = true) (hc : ∀ w, Holds K.w0 K.F m w → Calls P f vs.toArray w fun e w' => e = .returned v ∧ Below w.heap.size w w')
    (k : WL P K ops Q rest ((d, v) :: ρ) m) : WL P K ops Q (⟨some d, .call ⟨.value (.func f), xs.toArray, ats⟩, ty, pos, aft, g⟩ :: rest) ρ m :=
  WL_call hx hg hn hc (X := Unit) (fun _ => v) (fun _ => m) (fun _ => True) (fun _ _ _ hm ⟨he, hb⟩ => ⟨(), trivial, he, hm.grow hb⟩) (fun _ _ => k)
/-- a call that turns nothing, and makes things -/
theorem WL_callX {f : FuncId} [S : FnT P f] {xs : List Operand} {ats : Array TypeId} {vs : List Value} (hx : opvs ρ xs = some vs) (hg : guardB ops g ρ = some true)
    (hn : (guardN K.N ops g && Nat.blt d K.N) = true) {X : Type} {V : X → Value} {M : X → List HP} {I : X → Prop}
    (hc : ∀ w, Holds K.w0 K.F m w → Calls P f vs.toArray w fun e w' => ∃ x, I x ∧ e = .returned (V x) ∧ Holds w [] (M x) w')
    (k : ∀ x, I x → WL P K ops Q rest ((d, V x) :: ρ) (M x ++ m)) : WL P K ops Q (⟨some d, .call ⟨.value (.func f), xs.toArray, ats⟩, ty, pos, aft, g⟩ :: rest) ρ m :=
  WL_call hx hg hn hc V (fun x => M x ++ m) I (fun _ _ _ hm ⟨x, hx, he, hh⟩ => ⟨x, hx, he, hm.add hh⟩) k
theorem WQ_callV {L : Act → Prop} {f : FuncId} [S : FnT P f] {xs : List Operand} {ats : Array TypeId} {vs : List Value} (hx : opvs ρ xs = some vs) (hg : guardB ops g ρ = some true)
    (hn : (guardN K.N ops g && Nat.blt d K.N) = true) (hc : ∀ w, Holds K.w0 K.F m w → Calls P f vs.toArray w fun e w' => e = .returned v ∧ Below w.heap.size w w')
    (k : WQ P K ops L rest ((d, v) :: ρ) m) : WQ P K ops L (⟨some d, .call ⟨.value (.func f), xs.toArray, ats⟩, ty, pos, aft, g⟩ :: rest) ρ m := by
  refine ⟨fun a hf => ?_⟩
  simp only [Bool.and_eq_true] at hn
  unfold wpQuiet
  rw [if_pos (guard_wanted hf hg (guardN_spec hn.1))]
  refine ⟨v, fun w hw => ?_, k.run _ (hf.put (blt_lt hn.2) v)⟩
  unfold Oper.quietAt
  rw [run_enter hf hx]
  exact ⟨rfl, (hc w hw).mono fun _ _ ⟨he, hb⟩ => ⟨he, hw.grow hb⟩⟩
end ops
end Go.Proofs.YtllgkdkjcbohcaaGreatDoor
namespace Go.Proofs.YtllgkdkjcbohcaaGreatDoor
open Go.RowKit
def pureV (ρ : Env) : Op → Option Value
  | .move x | .assign x => opv ρ x
  | .pick c a b => match opv ρ c with
    | some (.bool true) => opv ρ a
    | some (.bool false) => opv ρ b
    | _ => none
  | .nilCheck x => match opv ρ x with
    | some (.pointer (some a)) => some (.pointer (some a))
    | _ => none
  | .unOp .not _ x => match opv ρ x with
    | some (.bool b) => some (.bool (!b))
    | _ => none
  | .extract x i => match opv ρ x with
    | some (.tuple vs) => vs[i]?
    | _ => none
  | .binOp op _ x y _ => match opv ρ x, opv ρ y with
    | some (.int k a), some (.int k' b) => if k = k' then (match op with
      | .lss => some (.bool (decide (a < b)))
      | .gtr => some (.bool (decide (b < a)))
      | .leq => some (.bool (decide (a ≤ b)))
      | .geq => some (.bool (decide (b ≤ a)))
      | .eql => some (.bool (decide (a = b)))
      | .neq => some (.bool (decide (a ≠ b)))
      | _ => none) else none
    | _, _ => none
  | _ => none
section
variable {P : Program} {K : Cx} {ρ : Env} {m : List HP} {dst : Option Nat} {ty : TypeId} {pos : String} {aft : Array Edge} {g : Option (Nat × Bool)} {v : Value} {ops : Array Oper} {Q : Exit → Act → World → Prop} {rest : List Oper} {L : Act → Prop}
theorem y_pure {op : Op} (h : pureV ρ op = some v) : Yi P K ρ m ⟨dst, op, ty, pos, aft, g⟩ v := by
  cases op with
  | move x => exact y_move h
  | assign x => exact y_assign h
  | pick c a b =>
    simp only [pureV] at h
    split at h
    · exact y_pickT (by assumption) h
    · exact y_pickF (by assumption) h
    · cases h
  | nilCheck x =>
    simp only [pureV] at h
    split at h
    · injection h with h; subst h; exact y_nilP (by assumption)
    · cases h
  | unOp o t x =>
    cases o <;> simp only [pureV] at h <;> try (cases h; done)
    split at h
    · injection h with h; subst h; exact y_not (by assumption)
    · cases h
  | extract x i =>
    simp only [pureV] at h
    split at h
    · rename_i vs hx
      refine ⟨fun a w hf _ => ?_⟩
      simp [execOp, hf.eval hx, Instr.extract, h]
    · cases h
  | binOp o t x y t' =>
    simp only [pureV] at h
    split at h
    · rename_i k a k' b hx hy
      split at h
      · rename_i hk
        subst hk
        cases o <;> simp only at h <;> try (cases h; done)
        all_goals (injection h with h; subst h; first | exact y_lt hx hy | exact y_gt hx hy | exact y_le hx hy | exact y_ge hx hy | exact y_eq hx hy | exact y_ne hx hy)
      · cases h
    · cases h
  | _ => cases h
theorem CW_condP {c : Operand} {x y : Code} {p : Prop} [Decidable p] (hc : opv ρ c = some (.bool (decide p))) (h : p) (ht : CW P K Q x ρ m) : CW P K Q (.cond c x y) ρ m := CW_condT (by rw [hc, decide_eq_true h]) ht
theorem CW_condN {c : Operand} {x y : Code} {p : Prop} [Decidable p] (hc : opv ρ c = some (.bool (decide p))) (h : ¬ p) (hf : CW P K Q y ρ m) : CW P K Q (.cond c x y) ρ m := CW_condF (by rw [hc, decide_eq_false h]) hf
theorem CW_condD {c : Operand} {x y : Code} {p : Prop} [Decidable p] (hc : opv ρ c = some (.bool (decide p))) (ht : p → CW P K Q x ρ m) (hf : ¬ p → CW P K Q y ρ m) : CW P K Q (.cond c x y) ρ m :=
  CW_cond hc (fun h => ht (of_decide_eq_true h)) (fun h => hf (of_decide_eq_false h))
def gslot (ops : Array Oper) (g : Option (Nat × Bool)) : Option Nat := g.bind fun jw => (ops[jw.1]?).bind (·.dst)
section
variable {d : Option Nat} {op : Op} {n : Nat} {p : Prop} [Decidable p]
theorem WL_set {c : Bool} {b : Bool} (h : ρ.find n = some (.bool b)) (e : b = c) (k : WL P K ops Q rest ((n, .bool c) :: ρ) m) : WL P K ops Q rest ρ m := ⟨fun a w hf hm => k.run a w (hf.cov (Cov.cons h (by rw [e]) (fun _ _ h => h))) hm⟩
theorem WQ_set {c : Bool} {b : Bool} (h : ρ.find n = some (.bool b)) (e : b = c) (k : WQ P K ops L rest ((n, .bool c) :: ρ) m) : WQ P K ops L rest ρ m := ⟨fun a hf => k.run a (hf.cov (Cov.cons h (by rw [e]) (fun _ _ h => h)))⟩
theorem WL_gP (_ : gslot ops g = some n) (h : ρ.find n = some (.bool (decide p))) (hp : p) (k : WL P K ops Q (⟨d, op, ty, pos, aft, g⟩ :: rest) ((n, .bool true) :: ρ) m) : WL P K ops Q (⟨d, op, ty, pos, aft, g⟩ :: rest) ρ m := WL_set h (decide_eq_true hp) k
theorem WL_gN (_ : gslot ops g = some n) (h : ρ.find n = some (.bool (decide p))) (hp : ¬ p) (k : WL P K ops Q (⟨d, op, ty, pos, aft, g⟩ :: rest) ((n, .bool false) :: ρ) m) : WL P K ops Q (⟨d, op, ty, pos, aft, g⟩ :: rest) ρ m := WL_set h (decide_eq_false hp) k
theorem WL_gD (_ : gslot ops g = some n) (h : ρ.find n = some (.bool (decide p))) (kt : p → WL P K ops Q (⟨d, op, ty, pos, aft, g⟩ :: rest) ((n, .bool true) :: ρ) m) (kf : ¬ p → WL P K ops Q (⟨d, op, ty, pos, aft, g⟩ :: rest) ((n, .bool false) :: ρ) m) : WL P K ops Q (⟨d, op, ty, pos, aft, g⟩ :: rest) ρ m :=
  WL_split n h (fun h => kt (of_decide_eq_true h)) (fun h => kf (of_decide_eq_false h))
theorem WQ_gP (_ : gslot ops g = some n) (h : ρ.find n = some (.bool (decide p))) (hp : p) (k : WQ P K ops L (⟨d, op, ty, pos, aft, g⟩ :: rest) ((n, .bool true) :: ρ) m) : WQ P K ops L (⟨d, op, ty, pos, aft, g⟩ :: rest) ρ m := WQ_set h (decide_eq_true hp) k
theorem WQ_gN (_ : gslot ops g = some n) (h : ρ.find n = some (.bool (decide p))) (hp : ¬ p) (k : WQ P K ops L (⟨d, op, ty, pos, aft, g⟩ :: rest) ((n, .bool false) :: ρ) m) : WQ P K ops L (⟨d, op, ty, pos, aft, g⟩ :: rest) ρ m := WQ_set h (decide_eq_false hp) k
theorem WQ_gD (_ : gslot ops g = some n) (h : ρ.find n = some (.bool (decide p))) (kt : p → WQ P K ops L (⟨d, op, ty, pos, aft, g⟩ :: rest) ((n, .bool true) :: ρ) m) (kf : ¬ p → WQ P K ops L (⟨d, op, ty, pos, aft, g⟩ :: rest) ((n, .bool false) :: ρ) m) : WQ P K ops L (⟨d, op, ty, pos, aft, g⟩ :: rest) ρ m :=
  WQ_split n h (fun h => kt (of_decide_eq_true h)) (fun h => kf (of_decide_eq_false h))
end
/-! ## where ways meet; loops: short forms -/
def leavesC : Code → Bool
  | .ret | .exit _ | .goto _ => true
  | .seq a b => leavesC a || leavesC b
  | .cond _ a b => leavesC a && leavesC b
  | _ => false
/-- is it a test of which both ways go on? -/
def joinsC : Code → Bool
  | .cond _ a b => !(leavesC a || leavesC b)
  | .seq (.region _ _ _) b => joinsC b
  | _ => false
theorem CW_seqN {x y : Code} (_ : joinsC x = false) (h : CW P K (QSeq P y Q) x ρ m) : CW P K Q (.seq x y) ρ m := CW_seq h
/-- kp: the slots that stay as they are -/
theorem CW_cutK {X : Type} (kp : Env) (hk : Cov ρ kp) (R : X → Env) (M : X → List HP) (I : X → Prop) {x y : Code} (h : Cov ρ kp → CW P K (QMid K (fun z => R z ++ kp) M I Q) x ρ m) (k : ∀ z, I z → CW P K Q y (R z ++ kp) (M z)) : CW P K Q (.seq x y) ρ m := CW_cut _ M I (h hk) k
theorem CW_loopK {X : Type} (kp : Env) (hk : Cov ρ kp) (R : X → Env) (M : X → List HP) (I : X → Prop) (μ : X → Nat) (x0 : X) (h0 : I x0) (hρ : Cov ρ (R x0)) (hm : Ent m (M x0)) {c : Code}
    (round : ∀ x, I x → CW P K (QLoop K (fun z => R z ++ kp) M I μ x Q) c (R x ++ kp) (M x)) : CW P K Q (.loop c) ρ m := by
  refine CW_loop (fun z => R z ++ kp) M I μ x0 h0 ?_ hm round
  intro n v hv
  have key : ∀ (l : Env), (l ++ kp).find n = some v → l.find n = some v ∨ kp.find n = some v := by
    intro l
    induction l with
    | nil => intro h; exact .inr h
    | cons a l ih =>
      obtain ⟨j, u⟩ := a
      intro h
      rw [List.cons_append, find_cons] at h
      rw [find_cons]
      by_cases hj : j = n
      · rw [if_pos hj] at h ⊢; exact .inl h
      · rw [if_neg hj] at h ⊢; exact ih h
  rcases key _ hv with h | h
  · exact hρ n v h
  · exact hk n v h
theorem EX_mid' {X : Type} {R : X → Env} {M : X → List HP} {I : X → Prop} (x : X) (h : Cov ρ (R x) ∧ Ent m (M x) ∧ I x) : EX K (QMid K R M I Q) .normal ρ m := EX_mid x h.2.2 h.1 h.2.1
theorem EX_loop' {X : Type} {R : X → Env} {M : X → List HP} {I : X → Prop} {μ : X → Nat} {x : X} (x' : X) (h : Cov ρ (R x') ∧ Ent m (M x') ∧ μ x' < μ x ∧ I x') : EX K (QLoop K R M I μ x Q) .normal ρ m := EX_loop x' h.2.2.2 h.2.2.1 h.1 h.2.1
theorem CW_loopP {X : Type} (kp : Env) (hk : Cov ρ kp) (R : X → Env) (I : X → Prop) (μ : X → Nat) (x0 : X) (h0 : I x0) (hρ : Cov ρ (R x0)) {c : Code}
    (round : ∀ x, I x → CW P K (QLoop K (fun z => R z ++ kp) (fun _ => m) I μ x Q) c (R x ++ kp) m) : CW P K Q (.loop c) ρ m := CW_loopK kp hk R (fun _ => m) I μ x0 h0 hρ Ent.refl round
end
end Go.Proofs.YtllgkdkjcbohcaaGreatDoor
