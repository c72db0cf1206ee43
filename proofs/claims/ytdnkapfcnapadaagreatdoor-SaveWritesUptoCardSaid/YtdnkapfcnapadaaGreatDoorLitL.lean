/-
  The logic of walks: a literal slice of bytes as a string; unsigned numbers of 64 bits. Of no program.
-/
import Derived.Test.YtdnkapfcnapadaaGreatDoorByteL
import Derived.Test.YtdnkapfcnapadaaGreatDoorBitL
namespace Go.Proofs.YtdnkapfcnapadaaGreatDoor
open Go.RowKit

section
variable {P : Program} {K : Cx} {ρ : Env} {m r : List HP} {dst : Option Nat} {ty t t' e : TypeId} {pos : String} {aft : Array Edge} {g : Option (Nat × Bool)} {v : Value} {x y z : Operand} {ops : Array Oper} {Q : Exit → Act → World → Prop} {rest : List Oper} {d : Nat} {l : List UInt8} {b c n : Nat}
theorem y_fromBlk [S0 : StrT P t'] [S : SlT P t e 1] [S2 : IntT P e .u8] {cs : Array Value} (l : List UInt8) (hx : opv ρ x = some (.slice (some ⟨b, 0, none⟩) n c)) (hp : Pick m (blk b e cs) r) (hn : n = l.length) (hc : cs.toList = l.map fun q : UInt8 => Value.int .u8 (q.toNat : Int)) : Yi P K ρ m ⟨dst, .convert t t' x, ty, pos, aft, g⟩ (.string ⟨l.toArray⟩) := ⟨fun a w hf hw => by
  have hb := hw.blk hp
  subst hn
  have h := run_convert_bytes_back (P := P) w t t' e ⟨b, 0, none⟩ c l S.und S2.und S0.und (fun j hj => by
    have e1 : (⟨b, 0, none⟩ : Addr).add j = ⟨b, j, none⟩ := addrAt_blk b j
    rw [e1]
    have e2 : cs[j]? = some (Value.int .u8 (l[j].toNat : Int)) := by
      rw [← Array.getElem?_toList, hc, List.getElem?_map, List.getElem?_eq_getElem hj]; rfl
    simp [World.cell?, hb, e2])
  simp only [execOp, hf.eval hx]
  simp [h]⟩
theorem u64_wrap_mod (i : Int) : IntKind.u64.wrap i = i % 18446744073709551616 := by
  unfold IntKind.wrap
  simp [IntKind.bits, IntKind.signed]
theorem y_addU {i j : Int} (hx : opv ρ x = some (.int .u64 i)) (hy : opv ρ y = some (.int .u64 j)) (h : 0 ≤ i + j ∧ i + j < 18446744073709551616) : Yi P K ρ m ⟨dst, .binOp .add t x y t', ty, pos, aft, g⟩ (.int .u64 (i + j)) := by
  have := y_add_w (P := P) (K := K) (m := m) (dst := dst) (ty := ty) (t := t) (t' := t') (pos := pos) (aft := aft) (g := g) hx hy
  rwa [u64_wrap_nn h] at this
theorem y_mulU {i j : Int} (hx : opv ρ x = some (.int .u64 i)) (hy : opv ρ y = some (.int .u64 j)) : Yi P K ρ m ⟨dst, .binOp .mul t x y t', ty, pos, aft, g⟩ (.int .u64 ((i * j) % 18446744073709551616)) := by
  have := y_mul_w (P := P) (K := K) (m := m) (dst := dst) (ty := ty) (t := t) (t' := t') (pos := pos) (aft := aft) (g := g) hx hy
  rwa [u64_wrap_mod] at this
theorem y_quoU {i j : Int} (hx : opv ρ x = some (.int .u64 i)) (hy : opv ρ y = some (.int .u64 j)) (h : 0 ≤ i ∧ i < 18446744073709551616 ∧ 1 ≤ j) : Yi P K ρ m ⟨dst, .binOp .quo t x y t', ty, pos, aft, g⟩ (.int .u64 (i / j)) := by
  have := y_quo_w (P := P) (K := K) (m := m) (dst := dst) (ty := ty) (t := t) (t' := t') (pos := pos) (aft := aft) (g := g) hx hy (by omega)
  rw [Int.tdiv_eq_ediv_of_nonneg h.1, u64_wrap_nn ⟨Int.ediv_nonneg h.1 (by omega), by have := Int.ediv_le_self j h.1; omega⟩] at this
  exact this
end
end Go.Proofs.YtdnkapfcnapadaaGreatDoor
