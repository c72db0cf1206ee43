/-
  The logic of walks: the bytes of a string as a slice of the call's own, and back. Of no program.
  The logic of walks: a literal slice of bytes as a string; unsigned numbers of 64 bits. Of no program.
-/
import Derived.Test.YtdnkapfcnapadaaGreatDoorRd
import Derived.Laws.IdiomStrings
import Derived.Test.YtdnkapfcnapadaaGreatDoorBitL
namespace Go.Proofs.YtdnkapfcnapadaaGreatDoor
open Go.RowKit

theorem addrAt_blk (b i : Nat) : addrAt (some ⟨b, 0, none⟩) i = ⟨b, i, none⟩ := by
  show (⟨b, 0, none⟩ : Addr).add i = _
  unfold Addr.add
  split <;> simp [*]
/-- block b: a slice of these bytes, made of a string -/
def byb (b : Nat) (e : TypeId) (l : List UInt8) : HP where
  p w fp := fp = [b] ∧ ∃ C : Array Value, w.heap[b]? = some (.cells C e (C.size, C.size + 1)) ∧ l.length ≤ C.size ∧ ∀ (i : Nat) (x : UInt8), l[i]? = some x → C[i]? = some (.int .u8 (x.toNat : Int))
  st w w' fp h := by rintro ⟨rfl, C, hb, h1, h2⟩; exact ⟨rfl, C, (h b (by simp)).trans hb, h1, h2⟩
  lt w fp := by
    rintro ⟨rfl, C, hb, _⟩ i hi
    have : i = b := by simpa using hi
    subst this
    exact (Array.getElem?_eq_some_iff.1 hb).1
section
variable {P : Program} {K : Cx} {ρ : Env} {m r : List HP} {dst : Option Nat} {ty t t' e : TypeId} {pos : String} {aft : Array Edge} {g : Option (Nat × Bool)} {v : Value} {x y z : Operand} {ops : Array Oper} {Q : Exit → Act → World → Prop} {rest : List Oper} {d : Nat} {l : List UInt8} {b c : Nat}
theorem WL_toBytes [S0 : StrT P t] [S : SlT P t' e 1] [S2 : IntT P e .u8] (hx : opv ρ x = some (.string ⟨l.toArray⟩)) (hg : guardB ops g ρ = some true) (hn : (guardN K.N ops g && Nat.blt d K.N) = true)
    (k : ∀ b c, WL P K ops Q rest ((d, .slice (some ⟨b, 0, none⟩) l.length c) :: ρ) (byb b e l :: m)) : WL P K ops Q (⟨some d, .convert t t' x, ty, pos, aft, g⟩ :: rest) ρ m := by
  refine WL_step hg hn fun a w hf hm => ?_
  have h := run_bytes_of_string (P := P) w t t' e ⟨l.toArray⟩ S0.und S.und S2.und
  refine ⟨_, _, w.drew.alloc (.cells (bytesRow ⟨l.toArray⟩ (grownCap w l.length 0 e)) e ((bytesRow ⟨l.toArray⟩ (grownCap w l.length 0 e)).size, (bytesRow ⟨l.toArray⟩ (grownCap w l.length 0 e)).size + 1)), ?_, ?_, k w.heap.size (grownCap w l.length 0 e)⟩
  · simp only [execOp, hf.eval hx]
    simp [h, ByteArray.size]
  · refine Holds.add (m1 := [byb w.heap.size e l]) hm.drew ⟨Keep.ofBelow ((Below.refl _ _).alloc (Nat.le_refl _) _), [w.heap.size], ⟨[w.heap.size], [], rfl, ⟨rfl, bytesRow ⟨l.toArray⟩ (grownCap w l.length 0 e), ?_, ?_, fun i q hq => ?_⟩, rfl, by simp⟩, fun i hi h => ?_⟩
    · show (w.heap.push _)[w.heap.size]? = _
      simp
    · simp [bytesRow]
    · have hi : i < l.length := (List.getElem?_eq_some_iff.1 hq).1
      unfold bytesRow
      rw [Array.getElem?_append_left (by simpa using hi)]
      simp [hq]
    · have : i = w.heap.size := by simpa using hi
      subst this
      exact absurd h (Nat.lt_irrefl _)
theorem rd_byb {i : Nat} {q : UInt8} (hp : Pick m (byb b e l) r) (hq : l[i]? = some q) : RdC K m (addrAt (some ⟨b, 0, none⟩) i) [.int .u8 (q.toNat : Int)] := fun w hw j u hj => by
  obtain ⟨fp, _, C, hb, h1, h2⟩ := hw.pick hp
  have hj0 : j = 0 := by have := (List.getElem?_eq_some_iff.1 hj).1; simp at this; omega
  subst hj0
  simp at hj
  subst hj
  rw [add_zero, addrAt_blk]
  simp [World.cell?, hb, h2 i q hq]
theorem WL_storeByb {i : Nat} {q : UInt8} {zv : Value} [S : OneT P t zv] (hx : opv ρ x = some (.pointer (some (addrAt (some ⟨b, 0, none⟩) i)))) (hy : opv ρ y = some (.int .u8 (q.toNat : Int))) (hp : Pick m (byb b e l) r) (hi : i < l.length)
    (hg : guardB ops g ρ = some true) (hn : guardN K.N ops g = true) (k : WL P K ops Q rest ρ (byb b e (l.set i q) :: r)) : WL P K ops Q (⟨none, .store t x y, ty, pos, aft, g⟩ :: rest) ρ m := by
  rw [addrAt_blk] at hx
  refine WL_stepU hg hn fun a w hf hm => ?_
  obtain ⟨fp, _, C, hb, h1, h2⟩ := hm.pick hp
  have hiC : i < C.size := by omega
  have h3 := run_store1 (P := P) (t := t) (w := w) (a := ⟨b, i, none⟩) (v := .int .u8 (q.toNat : Int)) (u := C[i]) (S.size w) rfl (by simp [World.cell?, hb, hiC]) (by simp [World.frozen?, hb]; omega)
  refine ⟨_, w.setCell ⟨b, i, none⟩ (.int .u8 (q.toNat : Int)), ?_, hm.turn (m1 := [byb b e (l.set i q)]) hp fun f1 hf1 => ?_, k⟩
  · simp only [execOp, hf.eval hx, hf.eval hy]
    simp [h3]
  · obtain ⟨rfl, _⟩ := hf1
    refine ⟨⟨rfl, rfl, rfl, by simp [World.setCell], fun k _ hF => Below.heap_setCell _ _ _ _ (by simpa using hF)⟩, [b], ⟨[b], [], rfl, ⟨rfl, C.setIfInBounds i (.int .u8 (q.toNat : Int)), ?_, ?_, fun j u hu => ?_⟩, rfl, by simp⟩, fun _ hi _ => hi⟩
    · simp [World.setCell, Array.getElem?_modify, hb]
    · simpa using h1
    · rw [List.getElem?_set] at hu
      rw [Array.getElem?_setIfInBounds]
      by_cases hij : i = j
      · subst hij
        rw [if_pos rfl, if_pos hi] at hu
        injection hu with hu
        subst hu
        simp [hiC]
      · rw [if_neg hij] at hu ⊢
        exact h2 j u hu
theorem y_fromBytes [S0 : StrT P t'] [S : SlT P t e 1] [S2 : IntT P e .u8] (hx : opv ρ x = some (.slice (some ⟨b, 0, none⟩) l.length c)) (hp : Pick m (byb b e l) r) : Yi P K ρ m ⟨dst, .convert t t' x, ty, pos, aft, g⟩ (.string ⟨l.toArray⟩) := ⟨fun a w hf hw => by
  obtain ⟨fp, _, C, hb, h1, h2⟩ := hw.pick hp
  have h := run_convert_bytes_back (P := P) w t t' e ⟨b, 0, none⟩ c l S.und S2.und S0.und (fun j hj => by
    have e1 : (⟨b, 0, none⟩ : Addr).add j = ⟨b, j, none⟩ := addrAt_blk b j
    rw [e1]
    simp [World.cell?, hb, h2 j l[j] (List.getElem?_eq_getElem hj)])
  simp only [execOp, hf.eval hx]
  simp [h]⟩
end
end Go.Proofs.YtdnkapfcnapadaaGreatDoor

namespace Go.Proofs.YtdnkapfcnapadaaGreatDoor
open Go.RowKit

section
variable {P : Program} {K : Cx} {ρ : Env} {m r : List HP} {dst : Option Nat} {ty t t' e : TypeId} {pos : String} {aft : Array Edge} {g : Option (Nat × Bool)} {v : Value} {x y z : Operand} {ops : Array Oper} {Q : Exit → Act → World → Prop} {rest : List Oper} {d : Nat} {l : List UInt8} {b c n : Nat}
theorem y_fromBlk [S0 : StrT P t'] [S : SlT P t e 1] [S2 : IntT P e .u8] {cs : Array Value} (l : List UInt8) (hx : opv ρ x = some (.slice (some ⟨b, 0, none⟩) n c)) (hp : Pick m (blk b e cs) r) (hn : n = l.length) (hc : cs.toList = l.map fun q : UInt8 => Value.int .u8 (q.toNat : Int)) : Yi P K ρ m ⟨dst, .convert t t' x, ty, pos, aft, g⟩ (.string ⟨l.toArray⟩) := ⟨fun a w hf hw => by
  have hb := hw.blk hp
  subst hn
  have h := run_convert_bytes_back (P := P) w t t' e ⟨b, 0, none⟩ c l S.und S2.und S0.und (fun j hj => by
    have e1 : (⟨b, 0, none⟩ : Addr).add j = ⟨b, j, none⟩ := addrAt_blk b j
    rw [e1]
    have e2 : cs[j]? = some (Value.int .u8 (l[j].toNat : Int)) := by
      rw [← Array.getElem?_toList, hc, List.getElem?_map, List.getElem?_eq_getElem hj]; rfl
    simp [World.cell?, hb, e2])
  simp only [execOp, hf.eval hx]
  simp [h]⟩
theorem u64_wrap_mod (i : Int) : IntKind.u64.wrap i = i % 18446744073709551616 := by
  unfold IntKind.wrap
  simp [IntKind.bits, IntKind.signed]
theorem y_addU {i j : Int} (hx : opv ρ x = some (.int .u64 i)) (hy : opv ρ y = some (.int .u64 j)) (h : 0 ≤ i + j ∧ i + j < 18446744073709551616) : Yi P K ρ m ⟨dst, .binOp .add t x y t', ty, pos, aft, g⟩ (.int .u64 (i + j)) := by
  have := y_add_w (P := P) (K := K) (m := m) (dst := dst) (ty := ty) (t := t) (t' := t') (pos := pos) (aft := aft) (g := g) hx hy
  rwa [u64_wrap_nn h] at this
theorem y_mulU {i j : Int} (hx : opv ρ x = some (.int .u64 i)) (hy : opv ρ y = some (.int .u64 j)) : Yi P K ρ m ⟨dst, .binOp .mul t x y t', ty, pos, aft, g⟩ (.int .u64 ((i * j) % 18446744073709551616)) := by
  have := y_mul_w (P := P) (K := K) (m := m) (dst := dst) (ty := ty) (t := t) (t' := t') (pos := pos) (aft := aft) (g := g) hx hy
  rwa [u64_wrap_mod] at this
theorem y_quoU {i j : Int} (hx : opv ρ x = some (.int .u64 i)) (hy : opv ρ y = some (.int .u64 j)) (h : 0 ≤ i ∧ i < 18446744073709551616 ∧ 1 ≤ j) : Yi P K ρ m ⟨dst, .binOp .quo t x y t', ty, pos, aft, g⟩ (.int .u64 (i / j)) := by
  have := y_quo_w (P := P) (K := K) (m := m) (dst := dst) (ty := ty) (t := t) (t' := t') (pos := pos) (aft := aft) (g := g) hx hy (by omega)
  rw [Int.tdiv_eq_ediv_of_nonneg h.1, u64_wrap_nn ⟨Int.ediv_nonneg h.1 (by omega), by have := Int.ediv_le_self j h.1; omega⟩] at this
  exact this
end
end Go.Proofs.YtdnkapfcnapadaaGreatDoor
